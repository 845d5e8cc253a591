/-
  Layer 40: The reference's readers of lines, plain; readBlock, typed.
-/
import Derived.Test.YtmhmpobjjhbklaaGreatDoorQA
import Derived.Test.YtmhmpobjjhbklaaGreatDoorPB
set_option linter.unusedVariables false
set_option linter.unusedSimpArgs false
namespace Go.Proofs.YtmhmpobjjhbklaaGreatDoor.St
def ropR (l : List W) : List W × Int := if l.head? = some lOp then (match l.tail with | [] => (l, 0) | u :: t => (t, (opFind u).1)) else (l, 0)
def rnR (l : List W) : List W × Nat := if l.head? = some lN then (match l.tail with | [] => (l, 0) | u :: t => (t, (rdNat u).1)) else (l, 0)
/-- The rest of an instruction's line, by the reference. -/
def rinsF (k : Int) (l : List W) : Ins × List W :=
  let o := ropR l
  let a := oneR o.1 lA
  let b := oneR a.1 lB
  let n := rnR b.1
  let f := someR n.1 lOf
  let t := someR f.1 lTo
  (⟨k, o.2, a.2, b.2, n.2, f.2, t.2⟩, t.1)
def ins0z : Ins := ⟨0, 0, 0, 0, 0, [], []⟩
def rinsP (s : W) : Ins × Bool :=
  match words s with
  | a :: b :: c :: t => if a = [] ∧ b = [] then ((rinsF (idx kindW c) t).1, (rinsF (idx kindW c) t).2 == [] && (decide (0 ≤ idx kindW c) && insR (rinsF (idx kindW c) t).1 == s ++ [10])) else (ins0z, false)
  | _ => (ins0z, false)
def redges : Nat → List W → Option (List Edge × List W)
  | 0, l => some ([], l)
  | f + 1, l => if l.head? = some lTo then
      match (someR l lTo).2 with
      | [] => none
      | z :: zs => (redges f (someR l lTo).1).map fun r => (⟨z, zs⟩ :: r.1, r.2)
    else some ([], l)
def rfinP (s : W) : Fin × Bool :=
  match words s with
  | a :: b :: e :: c :: t => if a = [] ∧ b = [] ∧ e = lEnd then
      let o := oneR t lOn
      let f := someR o.1 lOf
      match redges f.1.length f.1 with
      | none => (fin0z, false)
      | some (es, l) =>
        let q := oneR l lTrap
        (⟨idx endW c, o.2, f.2, es, q.2⟩, q.1 == [] && (decide (0 ≤ idx endW c) && finR ⟨idx endW c, o.2, f.2, es, q.2⟩ == s ++ [10]))
    else (fin0z, false)
  | _ => (fin0z, false)
def rblockP (s : W) : List Int × Bool := if (words s).head? = some lBlock then (numsR (words s).tail, (numsR (words s).tail).length == (words s).tail.length) else ([], false)
/-! What was written is found. -/
theorem oneR_back {S : List W} {w : W} {l : List W} (h : Hd S l) (hw : w ∉ S) {n : Int} (hn : InR n) : oneR (numW w n ++ l) w = (l, n) := by
  unfold oneR numW
  split
  · rename_i h0
    rw [List.nil_append, if_neg (fun e => hw (h w e)), h0]
  · simp [rdNum_itoa hn]
theorem numsR_back {S : List W} {l : List W} (h : Hd S l) (hS : ∀ w ∈ S, (rdNum w).2 = false) (z : List Int) (hz : ∀ n ∈ z, InR n) : numsR (z.map Lib.itoa ++ l) = z := by
  induction z with
  | nil =>
    rcases l with _ | ⟨w, l⟩
    · rfl
    · have := hS w (h w rfl)
      simp [numsR, this]
  | cons n z ih =>
    have := ih fun n hn => hz n (by simp [hn])
    simp [numsR, rdNum_itoa (hz n (by simp)), this]
theorem someR_back {S : List W} {w : W} {l : List W} (h : Hd S l) (hw : w ∉ S) (hS : ∀ w ∈ S, (rdNum w).2 = false) {z : List Int} (hz : ∀ n ∈ z, InR n) : someR (listW w z ++ l) w = (l, z) := by
  unfold someR listW
  split
  · rename_i h0
    rw [List.nil_append, if_neg (fun e => hw (h w e)), h0]
  · rw [List.cons_append, List.head?_cons, if_pos rfl, List.tail_cons, numsR_back h hS z hz, List.drop_left' (by simp)]
theorem ropR_back {S : List W} {l : List W} (h : Hd S l) (hw : lOp ∉ S) {op : Int} (hn : op = 0 ∨ opFind (Opc.name op) = (op, true)) : ropR (opW op ++ l) = (l, op) := by
  unfold ropR opW
  split
  · rename_i h0
    rw [List.nil_append, if_neg (fun e => hw (h _ e)), h0]
  · rename_i h0
    rw [List.cons_append, show ([111, 112] : W) = lOp from rfl]
    simp [hn.resolve_left h0]
theorem rnR_back {S : List W} {l : List W} (h : Hd S l) (hw : lN ∉ S) {n : Nat} (hn : n < 18446744073709551616) : rnR (nW n ++ l) = (l, n) := by
  unfold rnR nW
  split
  · rename_i h0
    rw [List.nil_append, if_neg (fun e => hw (h _ e)), h0]
  · rw [List.cons_append, show ([110] : W) = lN from rfl]
    simp [rdNat_dec hn]
theorem noN : ∀ w ∈ [lTo, lOf, lTrap], (rdNum w).2 = false := by
  intro w hw
  simp only [List.mem_cons, List.not_mem_nil, or_false] at hw
  rcases hw with rfl | rfl | rfl
  · exact rdNum_no 116 [111] rfl (by decide) (by decide)
  · exact rdNum_no 111 [102] rfl (by decide) (by decide)
  · exact rdNum_no 116 [114, 97, 112] rfl (by decide) (by decide)
theorem noN1 {S : List W} (h : ∀ w ∈ S, w ∈ [lTo, lOf, lTrap]) : ∀ w ∈ S, (rdNum w).2 = false := fun w hw => noN w (h w hw)
theorem rinsF_back (x : Ins) (hx : x.Ok) (ho : x.op = 0 ∨ opFind (Opc.name x.op) = (x.op, true)) (k : Int) : rinsF k (insT x) = (⟨k, x.op, x.a, x.b, x.n, x.args, x.outs⟩, []) := by
  have H6 : Hd [lTo] (listW lTo x.outs ++ []) := (Hd.nil []).listW _ _
  have H5 := H6.listW lOf x.args
  have H4 := H5.nW x.n
  have H3 := H4.numW lB x.b
  have H2 := H3.numW lA x.a
  have e : insT x = opW x.op ++ (numW lA x.a ++ (numW lB x.b ++ (nW x.n ++ (listW lOf x.args ++ (listW lTo x.outs ++ []))))) := by unfold insT lA lB lOf lTo; simp
  rw [e]
  unfold rinsF
  rw [ropR_back H2 (by decide) ho]
  dsimp only
  rw [oneR_back H3 (by decide) hx.a]
  dsimp only
  rw [oneR_back H4 (by decide) hx.b]
  dsimp only
  rw [rnR_back H5 (by decide) hx.n]
  dsimp only
  rw [someR_back H6 (by decide) (noN1 (by simp)) hx.args.2]
  dsimp only
  rw [someR_back (Hd.nil []) (by simp) (by simp) hx.outs.2]
theorem rinsP_back {x : Ins} (hx : x.Ok) (h : insMay x = true) : rinsP (insO x) = (x, true) := by
  have hw := w1_insW h
  have h' := h
  unfold insMay at h
  simp only [Bool.and_eq_true] at h
  obtain ⟨h1, h2, h3⟩ := h
  obtain ⟨i, hi, hk, e⟩ := word_get h1
  have hf : words (insO x) = [] :: [] :: insW x := by rw [insO_words x (kindw_ne h')]; exact words_two hw
  have hix : idx kindW (kindw x.kind) = x.kind := by unfold kindw; rw [e, idx_kinds i hi, hk]
  have hF := rinsF_back x hx (by
    by_cases h0 : x.op = 0
    · exact .inl h0
    · exact .inr (opFind_name h2 (by simpa using h3))) x.kind
  unfold rinsP
  rw [hf]
  unfold insW
  dsimp only
  rw [if_pos ⟨rfl, rfl⟩, hix, hF]
  have h0 : (0 : Int) ≤ x.kind := by omega
  have he : insR x = insO x ++ [10] := ins_eq x (kindw_ne h')
  simp [h0, he]
theorem opFind0 (w : W) : Opc.known (opFind w).1 = true ∧ (opFind w).1 ≠ 28 := by
  rcases h : (opFind w).2 with _ | _
  · have : (opFind w).1 = 0 := by
      unfold opFind at h ⊢
      rcases hs : Opc.seek w Opc.all with _ | op
      · rfl
      · rw [hs] at h; cases h
    rw [this]; exact known0
  · exact opFind_may h
theorem ropR_may (l : List W) : Opc.known (ropR l).2 = true ∧ (ropR l).2 ≠ 28 := by
  unfold ropR
  split
  · split
    · exact known0
    · exact opFind0 _
  · exact known0
theorem rinsP_some {s : W} (h : (rinsP s).2 = true) : insMay (rinsP s).1 = true ∧ insO (rinsP s).1 = s := by
  unfold rinsP at h ⊢
  split at h
  · rename_i a b c t hw
    split at h
    · rename_i hab
      rw [if_pos hab]
      simp only [Bool.and_eq_true, decide_eq_true_eq, beq_iff_eq] at h
      obtain ⟨h1, h2, h3⟩ := h
      have hmay : insMay (rinsF (idx kindW c) t).1 = true := by
        unfold insMay rinsF
        have hm := ropR_may t
        simp only [Bool.and_eq_true]
        exact ⟨(idx_word h2).1, hm.1, by simpa using hm.2⟩
      refine ⟨hmay, ?_⟩
      rw [ins_eq _ (kindw_ne hmay)] at h3
      exact List.append_cancel_right h3
    · cases h
  · cases h
theorem redges_back {S : List W} {l : List W} (h : Hd S l) (hw : lTo ∉ S) (hS : ∀ w ∈ lTo :: S, (rdNum w).2 = false) (z : List Edge) (hz : ∀ e ∈ z, e.Ok) (f : Nat) (hf : z.length ≤ f) : redges f (z.flatMap edW ++ l) = some (z, l) := by
  induction z generalizing f with
  | nil =>
    rw [List.flatMap_nil, List.nil_append]
    rcases f with _ | f
    · rfl
    · rw [redges, if_neg (fun e => hw (h _ e))]
  | cons e z ih =>
    obtain ⟨f, rfl⟩ : ∃ g, f = g + 1 := ⟨f - 1, by simp at hf; omega⟩
    have he := hz e (by simp)
    have ih := ih (fun e he => hz e (by simp [he])) f (by simpa using hf)
    have hb : someR (listW lTo (e.tgt :: e.args) ++ (z.flatMap edW ++ l)) lTo = (z.flatMap edW ++ l, e.tgt :: e.args) := by
      have hL : listW lTo (e.tgt :: e.args) = lTo :: (e.tgt :: e.args).map Lib.itoa := by unfold listW; rw [if_neg (by simp)]
      unfold someR
      rw [hL, List.cons_append, List.head?_cons, if_pos rfl, List.tail_cons, numsR_back (h.edges z) hS _ (by
        intro n hn
        rcases List.mem_cons.1 hn with rfl | hn
        · exact he.1
        · exact he.2.2 n hn), List.drop_left' (by simp)]
    have e1 : (e :: z).flatMap edW ++ l = listW lTo (e.tgt :: e.args) ++ (z.flatMap edW ++ l) := by
      rw [List.flatMap_cons]; unfold edW listW lTo; simp
    rw [e1, redges, hb]
    have e2 : (listW lTo (e.tgt :: e.args) ++ (z.flatMap edW ++ l)).head? = some lTo := by unfold listW; simp
    rw [if_pos e2]
    dsimp only
    rw [ih]
    rfl
theorem rfinP_back {x : Fin} (hx : x.Ok) (h : (word endW x.kind).2 = true) : rfinP (finO x) = (x, true) := by
  have hw := w1_finW h
  obtain ⟨i, hi, hk, e⟩ := word_get h
  have hf : words (finO x) = [] :: [] :: finW x := by rw [finO_words x (word_ne endW_ne h)]; exact words_two hw
  have hix : idx endW (word endW x.kind).1 = x.kind := by rw [e, idx_ends i hi, hk]
  have H4 : Hd [lTrap] (numW lTrap x.trap ++ []) := (Hd.nil []).numW _ _
  have H3 := H4.edges x.edges
  have H2 := H3.listW lOf x.args
  have et : finT x = numW lOn x.cond ++ (listW lOf x.args ++ (x.edges.flatMap edW ++ (numW lTrap x.trap ++ []))) := by unfold finT lOn lOf lTrap; simp
  have hfl : x.edges.length ≤ (x.edges.flatMap edW ++ (numW lTrap x.trap ++ [])).length := by
    rw [List.length_append]
    have : ∀ l : List Edge, l.length ≤ (l.flatMap edW).length := by
      intro l
      induction l with
      | nil => simp
      | cons a l ih =>
        have : 1 ≤ (edW a).length := by simp [edW]
        rw [List.flatMap_cons, List.length_append, List.length_cons]; omega
    have := this x.edges
    omega
  unfold rfinP
  rw [hf]
  unfold finW
  dsimp only
  rw [if_pos ⟨rfl, rfl, rfl⟩, hix, et, oneR_back H2 (by decide) hx.cond]
  dsimp only
  rw [someR_back H3 (by decide) (noN1 (by simp)) hx.args.2]
  dsimp only
  rw [redges_back H4 (by decide) (noN1 (by simp)) x.edges hx.edges.2 _ hfl]
  dsimp only
  rw [oneR_back (Hd.nil []) (by simp) hx.trap]
  have h0 : (0 : Int) ≤ x.kind := by omega
  have he : finR x = finO x ++ [10] := fin_eq x (word_ne endW_ne h)
  have hx' : (⟨x.kind, x.cond, x.args, x.edges, x.trap⟩ : Fin) = x := rfl
  simp only [hx']
  simp [h0, he]
theorem rfinP_some {s : W} (h : (rfinP s).2 = true) : (word endW (rfinP s).1.kind).2 = true ∧ finO (rfinP s).1 = s := by
  unfold rfinP at h ⊢
  split at h
  · rename_i a b e c t hw
    split at h
    · rename_i hab
      rw [if_pos hab]
      dsimp only at h ⊢
      split at h
      · cases h
      · rename_i es l hr
        simp only [Bool.and_eq_true, decide_eq_true_eq, beq_iff_eq] at h
        obtain ⟨h1, h2, h3⟩ := h
        have hk := (idx_word h2).1
        refine ⟨hk, ?_⟩
        dsimp only
        rw [fin_eq _ (word_ne endW_ne hk)] at h3
        exact List.append_cancel_right h3
    · cases h
  · cases h
def SubL (a b : List W) : Prop := (∀ u ∈ a, u ∈ b) ∧ a.length ≤ b.length
theorem SubL.refl (a : List W) : SubL a a := ⟨fun _ h => h, Nat.le_refl _⟩
theorem SubL.trans {a b c : List W} (h : SubL a b) (k : SubL b c) : SubL a c := ⟨fun u hu => k.1 u (h.1 u hu), Nat.le_trans h.2 k.2⟩
theorem SubL.tail2 {l t : List W} {u : W} (h : l.tail = u :: t) : SubL t l := ⟨fun v hv => List.mem_of_mem_tail (by rw [h]; exact List.mem_cons_of_mem _ hv), by
  have := congrArg List.length h
  rw [List.length_tail, List.length_cons] at this
  omega⟩
theorem ropR_sub (l : List W) : SubL (ropR l).1 l := by
  unfold ropR
  split
  · split
    · exact SubL.refl _
    · rename_i u t h; exact SubL.tail2 h
  · exact SubL.refl _
theorem oneR_sub (l : List W) (s : W) : SubL (oneR l s).1 l := by
  unfold oneR
  split
  · split
    · exact SubL.refl _
    · rename_i u t h
      split
      · exact SubL.tail2 h
      · exact SubL.refl _
  · exact SubL.refl _
theorem rnR_sub (l : List W) : SubL (rnR l).1 l := by
  unfold rnR
  split
  · split
    · exact SubL.refl _
    · rename_i u t h; exact SubL.tail2 h
  · exact SubL.refl _
theorem someR_sub (l : List W) (s : W) : SubL (someR l s).1 l := by
  unfold someR
  split
  · exact ⟨fun u hu => List.mem_of_mem_tail (List.mem_of_mem_drop hu), by rw [List.length_drop, List.length_tail]; omega⟩
  · exact SubL.refl _
theorem oneR_in (l : List W) (s : W) : InR (oneR l s).2 := by
  have z : InR 0 := by unfold InR; omega
  unfold oneR
  split
  · split
    · exact z
    · split
      · exact rdNum_in _
      · exact z
  · exact z
theorem rnR_in (l : List W) : (rnR l).2 < 18446744073709551616 := by
  unfold rnR
  split
  · split
    · simp
    · exact rdNat_lt _
  · simp
theorem someR_in (l : List W) (s : W) : (someR l s).2.length ≤ l.length ∧ ∀ z ∈ (someR l s).2, InR z := by
  unfold someR
  split
  · exact ⟨Nat.le_trans (numsR_len _) (by rw [List.length_tail]; omega), numsR_in _⟩
  · simp
theorem rinsF_ok (k : Int) (l : List W) (h : l.length ≤ 9000) : (rinsF k l).1.Ok := by
  unfold rinsF
  dsimp only
  have s1 := (ropR_sub l).2
  have s2 := (oneR_sub (ropR l).1 lA).2
  have s3 := (oneR_sub (oneR (ropR l).1 lA).1 lB).2
  have s4 := (rnR_sub (oneR (oneR (ropR l).1 lA).1 lB).1).2
  have s5 := (someR_sub (rnR (oneR (oneR (ropR l).1 lA).1 lB).1).1 lOf).2
  have i5 := someR_in (rnR (oneR (oneR (ropR l).1 lA).1 lB).1).1 lOf
  have i6 := someR_in (someR (rnR (oneR (oneR (ropR l).1 lA).1 lB).1).1 lOf).1 lTo
  exact ⟨oneR_in _ _, oneR_in _ _, rnR_in _, ⟨by dsimp only; omega, i5.2⟩, by dsimp only; omega, i6.2⟩
end Go.Proofs.YtmhmpobjjhbklaaGreatDoor.St
set_option linter.unusedVariables false
set_option linter.unusedSimpArgs false
namespace Go.Proofs.YtmhmpobjjhbklaaGreatDoor
namespace St
theorem wordsGo_len : ∀ (s cur : W), ∀ u ∈ wordsGo cur s, u.length ≤ cur.length + s.length
  | [], cur, u, h => by
    unfold wordsGo at h
    rw [List.mem_singleton.1 h]; simp
  | b :: s, cur, u, h => by
    unfold wordsGo at h
    split at h
    · rcases List.mem_cons.1 h with rfl | h
      · simp
      · have := wordsGo_len s [] u h
        simp at this ⊢; omega
    · have := wordsGo_len s (cur ++ [b]) u h
      simp at this ⊢; omega
theorem words_len (s : W) : ∀ u ∈ words s, u.length ≤ s.length := fun u h => by have := wordsGo_len s [] u h; simpa using this
theorem wordsGo_count : ∀ (s cur : W), (wordsGo cur s).length ≤ s.length + 1
  | [], cur => by simp [wordsGo]
  | b :: s, cur => by
    unfold wordsGo
    split
    · have := wordsGo_count s []; simp; omega
    · have := wordsGo_count s (cur ++ [b]); simp; omega
theorem words_count (s : W) : (words s).length ≤ s.length + 1 := wordsGo_count s []
theorem words_ne (s : W) : words s ≠ [] := by
  have : ∀ (s cur : W), wordsGo cur s ≠ [] := by
    intro s
    induction s with
    | nil => intro cur; simp [wordsGo]
    | cons b s ih => intro cur; unfold wordsGo; split <;> simp [ih]
  exact this s []
end St
open Go.RowKit
open St (InR)
set_option maxHeartbeats 4000000 in
set_option maxRecDepth 100000 in
theorem rreadBlock_any (s : St.W) (hs : s.length ≤ 900000) (w : World) :
    Calls Tryz.prog 34 #[.string ⟨s.toArray⟩] w fun e w' => BlockOut w.heap.size (St.rblockP s) e w' ∧ Below w.heap.size w w' := by
  have HW := Lib.hid (rwords_any s (by omega) w)
  have hwl := St.words_len s
  have hwc := St.words_count s
  have hne := St.words_ne s
  obtain ⟨Z, hZ⟩ : ∃ Z, St.rblockP s = Z := ⟨_, rfl⟩
  rw [hZ]
  unfold St.rblockP at hZ
  obtain ⟨L, hL⟩ : ∃ L, St.words s = L := ⟨_, rfl⟩
  rw [hL] at HW hwl hwc hne hZ
  clear hL
  obtain ⟨u, t, rfl⟩ := List.exists_cons_of_ne_nil hne
  rw [List.head?_cons, List.tail_cons] at hZ
  simp only [List.length_cons] at hwc
  have x0 : ¬ ((t.length : Int) + 1 = 0) := by omega
  have y0 : (((t.length : Int) + 1) == 0) = false := by rw [beq_eq_false_iff_ne]; exact x0
  by_cases he : u = St.lBlock
  · rw [if_pos (by rw [he])] at hZ
    have hnl := St.numsR_len t
    have HN := Lib.hid (fun v W h => rnumsR_any v t (by omega) (fun x hx => by have := hwl x (by simp [hx]); omega) W h)
    obtain ⟨zs, hzs⟩ : ∃ z, St.numsR t = z := ⟨_, rfl⟩
    rw [hzs] at HN hZ hnl
    clear hzs hwl hne
    have q1 : (u == ([98, 108, 111, 99, 107] : List UInt8)) = true := by rw [he]; decide
    have q2 : (u != ([98, 108, 111, 99, 107] : List UInt8)) = false := by rw [he]; decide
    have q3 : (((ByteArray.mk u.toArray) != (ByteArray.mk #[98, 108, 111, 99, 107])) = false) := by rw [he]; rfl
    have HZ := Lib.hid hZ
    clear hZ he
    have m1 : IntKind.i64.wrap ((t.length : Int) + 1 - 1) = (t.length : Int) := by rw [IntKind.wrap_i64]; omega
    have hbq : ((zs.length : Int) == (t.length : Int)) = (zs.length == t.length) := by
      rw [Bool.eq_iff_iff, beq_iff_eq, beq_iff_eq]; omega
    go_enter Tryz.func34, Tryz.ntmps34
    go_upto_region 4 with (go_at_call 32; refine HW.out.mono ?_; rintro e w1 ⟨⟨v1, rfl, A1, c1, rfl, hr1, hc1⟩, hb⟩; obtain ⟨g, o, rfl, hg, hh0⟩ := hr1.get (i := 0) (by simp); have f0 := hh0 0 _ rfl; simp only [Nat.zero_mul, Nat.add_zero, List.getElem_cons_zero] at f0; simp only [List.length_cons] at hc1; have HC := Lib.hid (fun (o' c' : Nat) (ho : t = [] ∨ o' = o + 1) (hc' : t.length ≤ c') => Sl.cut hr1 ho hc'); have HB := Lib.hid hb; clear hr1 hh0 hb)
    go_wp2_with (go_at_call 73; with_reducible refine (HN.out _ _ (HC.out _ _ (by first | exact .inr rfl | exact .inl (List.eq_nil_of_length_eq_zero (by omega))) (by omega))).mono ?_; rintro e w2 ⟨⟨A2, c2, rfl, hrz⟩, hb⟩; have HB2 := Lib.hid (HB.out.trans (hb.mono HB.out.size)); have HRZ := Lib.hid (hrz.mono (S' := fun g => w.heap.size ≤ g) (fun g _ h => Nat.le_trans HB.out.size h)); clear hb hrz)
    all_goals go_ret2
    all_goals rw [← HZ.out]
    all_goals exact ⟨⟨A2, c2, rfl, HRZ.out⟩, HB2.out⟩
  · rw [if_neg (by intro e; injection e with e; exact he e)] at hZ
    have q1 : (u == ([98, 108, 111, 99, 107] : List UInt8)) = false := beq_eq_false_iff_ne.2 he
    have q3 : ((ByteArray.mk u.toArray) != (ByteArray.mk #[98, 108, 111, 99, 107])) = true := bne_no (b := [98, 108, 111, 99, 107]) he
    have HZ := Lib.hid hZ
    clear hZ he
    go_enter Tryz.func34, Tryz.ntmps34
    go_wp2_with (go_at_call 32; refine HW.out.mono ?_; rintro e w1 ⟨⟨v1, rfl, A1, c1, rfl, hr1, hc1⟩, hb⟩; obtain ⟨g, o, rfl, hg, hh0⟩ := hr1.get (i := 0) (by simp); have f0 := hh0 0 _ rfl; simp only [Nat.zero_mul, Nat.add_zero, List.getElem_cons_zero] at f0; have HB := Lib.hid hb; clear hr1 hh0 hb)
    go_ret2
    rw [← HZ.out]
    exact ⟨⟨none, 0, rfl, RdT.nil_⟩, HB.out⟩
end Go.Proofs.YtmhmpobjjhbklaaGreatDoor
set_option linter.unusedVariables false
set_option linter.unusedSimpArgs false
namespace Go.Proofs.YtmhmpobjjhbklaaGreatDoor
namespace St
def addV (out : List Int) (w : W) : List Int := if (Ty.find w).2 then out ++ [(Ty.find w).1] else out
/-- What typed gathers from place i on; the next name begins at f. -/
def tyGo (s : W) : Nat → Nat → Nat → List Int → List Int × W × Bool
  | 0, _, _, _ => ([], [], false)
  | n + 1, f, i, out =>
    if s[i]? = some 44 then tyGo s n (min (i + 2) s.length) (i + 1) (addV out ((s.take i).drop (min f i)))
    else if s[i]? = some 41 then (addV out ((s.take i).drop (min f i)), s.drop (i + 1), true)
    else tyGo s n f (i + 1) out
def typedR (s : W) : List Int × W × Bool := if s.head? = some 40 then tyGo s (s.length - 1) 1 1 [] else ([], [], false)
end St
open Go.RowKit
open St (InR)
attribute [local go_sem] ByteArray.extract_mk
set_option maxHeartbeats 1000000 in
set_option maxRecDepth 100000 in
theorem rtyped_any (s : St.W) (hs : s.length ≤ 1000000) (w : World) :
    Calls Tryz.prog 71 #[.string ⟨s.toArray⟩] w fun e w' => (∃ A c, e = .returned (.tuple #[.slice A (St.typedR s).1.length c, .string ⟨(St.typedR s).2.1.toArray⟩, .bool (St.typedR s).2.2]) ∧ RdZ w' (fun g => w.heap.size ≤ g) A (St.typedR s).1) ∧ Below w.heap.size w w' := by
  obtain ⟨i0, hi0, hz0, hz1, hz2⟩ := info_parts info_val
  have hsz : (ByteArray.mk s.toArray).size = s.length := by simp [ByteArray.size]
  obtain ⟨Z, hZ⟩ : ∃ Z, St.typedR s = Z := ⟨_, rfl⟩
  rw [hZ]
  unfold St.typedR at hZ
  by_cases hh : s.head? = some 40
  case neg =>
    rw [if_neg hh] at hZ
    have HZ := Lib.hid hZ
    clear hZ
    rcases s with _ | ⟨b, t⟩
    · clear hh
      go_enter Tryz.func71, Tryz.ntmps71
      go_wp2
      go_ret3
      rw [← HZ.out]
      exact ⟨⟨none, 0, rfl, RdT.nil_⟩, Below.refl _ _⟩
    · obtain ⟨nb, hnb⟩ : ∃ n : Nat, b.toNat = n := ⟨_, rfl⟩
      have y0 : ∀ h, (((ByteArray.mk (b :: t).toArray)[0]'h).toNat : Int) = (nb : Int) := fun h => by show (b.toNat : Int) = _; omega
      have y1 : ¬ ((nb : Int) = 40) := fun e => hh (by rw [List.head?_cons, show b = 40 from UInt8.toNat.inj (by rw [hnb]; simp; omega)])
      have y2 : ((nb : Int) == 40) = false := by rw [beq_eq_false_iff_ne]; exact y1
      have x0 : (((t.length : Int) + 1) == 0) = false := by rw [beq_eq_false_iff_ne]; omega
      have y5 : ((nb : Int) != 40) = true := by simp [bne, y2]
      clear hh hnb
      go_enter Tryz.func71, Tryz.ntmps71
      go_wp2
      go_ret3
      rw [← HZ.out]
      exact ⟨⟨none, 0, rfl, RdT.nil_⟩, Below.refl _ _⟩
  rw [if_pos hh] at hZ
  have HZ := Lib.hid hZ
  clear hZ
  have hl1 : 0 < s.length := by rcases s with _ | ⟨b, t⟩; cases hh; simp
  have x0 : ((s.length : Int) == 0) = false := by rw [beq_eq_false_iff_ne]; omega
  have y0 : ∀ h, (((ByteArray.mk s.toArray)[0]'h).toNat : Int) = 40 := fun h => by
    rcases s with _ | ⟨b, t⟩
    · cases hh
    · obtain rfl : b = 40 := by simpa using hh
      rfl
  clear hh
  go_enter Tryz.func71, Tryz.ntmps71
  go_wp2
  go_loopw [5, 6, 7] (fun ov fv iv wr => ∃ (i f m : Nat) (A : Option Addr) (c : Nat) (zs : List Int), ov = .slice A m c ∧ Hid (zs.length = m) ∧ fv = .int .i64 (f : Int) ∧ iv = .int .i64 (i : Int) ∧ 1 ≤ i ∧ i ≤ s.length ∧ f ≤ s.length ∧ m ≤ i ∧ Hid (St.tyGo s (s.length - i) f i zs = Z) ∧ wr.ownsRow w.heap.size 51 1 (.slice A m c) m (zs.flatMap encZ) ∧ Below w.heap.size w wr) (fun _ _ iv _ => s.length - (intOf iv).toNat)
  case atStart => exact ⟨1, 1, 0, none, 0, [], rfl, Lib.hid rfl, rfl, rfl, by omega, by omega, by omega, by omega, HZ, World.ownsRow_nil _ _ _ _, Below.refl _ _⟩
  case round =>
    clear HZ y0
    obtain ⟨i, f, m, A, c, zs, rfl, HM, rfl, rfl, hi0', hi, hf, hm, HZ, hown, hB⟩ := hrel
    by_cases h1 : i = s.length
    · subst h1
      have x1 : ¬ (s.length : Int) < (s.length : Int) := by omega
      have hZ := HZ.out
      rw [Nat.sub_self] at hZ
      have HZ2 := Lib.hid hZ
      clear hZ HZ
      go_wp2
      go_ret3
      rw [← HZ2.out]
      exact ⟨⟨none, ⟨0, rfl⟩, RdT.nil_⟩, hB⟩
    have hlt : i < s.length := by omega
    have x5 : (i : Int) < (s.length : Int) := by omega
    have x7 : (0 : Int) ≤ (i : Int) := by omega
    have hZ := HZ.out
    rw [show s.length - i = (s.length - (i + 1)) + 1 by omega] at hZ
    unfold St.tyGo at hZ
    rw [List.getElem?_eq_getElem hlt] at hZ
    simp only [Option.some.injEq] at hZ
    obtain ⟨nb, hnb⟩ : ∃ n : Nat, s[i].toNat = n := ⟨_, rfl⟩
    have y0 : ∀ h, (((ByteArray.mk s.toArray)[i]'h).toNat : Int) = (nb : Int) := fun h => by show ((s[i]).toNat : Int) = _; omega
    have y44 : s[i] = 44 ↔ (nb : Int) = 44 := ⟨fun h => by rw [h] at hnb; simp at hnb; omega, fun h => UInt8.toNat.inj (by rw [hnb]; simp; omega)⟩
    have y41 : s[i] = 41 ↔ (nb : Int) = 41 := ⟨fun h => by rw [h] at hnb; simp at hnb; omega, fun h => UInt8.toNat.inj (by rw [hnb]; simp; omega)⟩
    simp only [y44, y41] at hZ
    obtain ⟨q, hq⟩ : ∃ q, min f i = q := ⟨_, rfl⟩
    rw [hq] at hZ
    have hmin : min (f : Int) (i : Int) = (q : Int) := by omega
    have x8 : (0 : Int) ≤ (q : Int) := by omega
    have x9 : (q : Int) ≤ (i : Int) := by omega
    obtain ⟨r, hr⟩ : ∃ r, min (i + 2) s.length = r := ⟨_, rfl⟩
    rw [hr] at hZ
    have hmin2 : min ((i : Int) + 2) (s.length : Int) = (r : Int) := by omega
    have hrs : r ≤ s.length := by omega
    clear y44 y41 hnb HZ
    by_cases h3 : (nb : Int) = 44 ∨ (nb : Int) = 41
    case neg =>
      have y1 : ¬ ((nb : Int) = 44) := fun e => h3 (.inl e)
      have y2 : ¬ ((nb : Int) = 41) := fun e => h3 (.inr e)
      have y3 : ((nb : Int) != 44) = true := by simp [y1]
      have y4 : ((nb : Int) != 41) = true := by simp [y2]
      rw [if_neg y1, if_neg y2] at hZ
      have HZ := Lib.hid hZ
      clear hZ h3
      go_wp2
      go_roundw
      case rel => exact ⟨i + 1, f, m, A, c, zs, rfl, HM, rfl, by go_num, by omega, by omega, by omega, by omega, HZ, hown, hB⟩
      case measure => simp [intOf] <;> omega
    have hw : (s.take i).drop q = (s.drop q).take (i - q) := List.drop_take
    rw [hw] at hZ
    have HF := Lib.hid (fun W => refFind_any ((s.drop q).take (i - q)) W)
    unfold St.addV at hZ
    obtain ⟨⟨z, zb⟩, hF⟩ : ∃ F, Ty.find ((s.drop q).take (i - q)) = F := ⟨_, rfl⟩
    rw [hF] at HF hZ
    dsimp only at HF hZ
    have HB := Lib.hid hB
    have hsz0 := hB.size
    clear hF hw hq hr hB
    rcases h3 with h3 | h3
    · have y2 : ((nb : Int) != 44) = false := by simp [h3]
      have y5 : ((nb : Int) == 41) = false := by rw [h3]; decide
      rw [if_pos h3] at hZ
      rcases zb with _ | _
      · skip
        rw [if_neg (by simp)] at hZ
        have HZ := Lib.hid hZ
        clear hZ
        go_wp2_with (go_at_call 72; with_reducible refine (HF.out _).mono ?_; rintro e w1 ⟨rfl, hb⟩; have hown1 := own_belowW hown hb; have HB2 := Lib.hid (HB.out.trans (hb.mono HB.out.size)); have hsz2 := HB2.out.size; clear hb hown)
        go_roundw
        case rel => exact ⟨i + 1, r, m, A, c, zs, rfl, Lib.hid (HM.out), by go_num, by go_num, by omega, by omega, by omega, by omega, HZ, hown1, HB2.out⟩
        case measure => simp [intOf] <;> omega
      · skip
        rw [if_pos rfl] at hZ
        have HZ := Lib.hid hZ
        clear hZ
        go_wp2_with (first | (go_at_call 72; with_reducible refine (HF.out _).mono ?_; rintro e w1 ⟨rfl, hb⟩; have hown1 := own_belowW hown hb; have HB2 := Lib.hid (HB.out.trans (hb.mono HB.out.size)); have hsz2 := HB2.out.size; clear hb hown) | (at_builtin; refine app_rs Tryz.underlying22 hi0 hz0 hz1 hz2 rfl (by omega) encZ_len encZ_one _ rfl (.tmp 45) (.tmp 47) rfl w.heap.size _ m _ (by rfl) (hown1.alloc _) [z] 1 1 _ rfl (by rfl) (one_val _ z) (by omega) (by omega) (by simp; omega) ?_; intro A' c' w2 hown2 hg; have HB3 := Lib.hid (vals_step hown1 HB2.out hg); clear hg))
        go_roundw
        case rel => exact ⟨i + 1, r, m + 1, A', c', (zs ++ [z]), rfl, Lib.hid (by rw [List.length_append, HM.out]; rfl), by go_num, by go_num, by omega, by omega, by omega, by omega, HZ, hown2, HB3.out⟩
        case measure => simp [intOf] <;> omega
    · have y1 : ((nb : Int) != 44) = true := by rw [h3]; decide
      have y2 : ((nb : Int) != 41) = false := by simp [h3]
      have y5 : ((nb : Int) == 41) = true := by rw [h3]; decide
      have x10 : (i : Int) + 1 ≤ (s.length : Int) := by omega
      have x11 : (0 : Int) ≤ (i : Int) + 1 := by omega
      rw [if_neg (by omega), if_pos h3, show s.drop (i + 1) = (s.drop (i + 1)).take (s.length - (i + 1)) from (List.take_of_length_le (by rw [List.length_drop]; omega)).symm] at hZ
      rcases zb with _ | _
      · skip
        rw [if_neg (by simp)] at hZ
        have HZ := Lib.hid hZ
        clear hZ
        go_wp2_with (go_at_call 72; with_reducible refine (HF.out _).mono ?_; rintro e w1 ⟨rfl, hb⟩; have hown1 := own_belowW hown hb; have HB2 := Lib.hid (HB.out.trans (hb.mono HB.out.size)); have hsz2 := HB2.out.size; clear hb hown)
        go_region
        go_wp2
        go_ret3
        rw [← HZ.out]
        dsimp only
        exact ⟨⟨A, c, by rw [HM.out]; rfl, own_rdz hown1⟩, HB2.out.trans (below_drewN _ 1 |>.mono HB2.out.size)⟩
      · skip
        rw [if_pos rfl] at hZ
        have HZ := Lib.hid hZ
        clear hZ
        go_wp2_with (first | (go_at_call 72; with_reducible refine (HF.out _).mono ?_; rintro e w1 ⟨rfl, hb⟩; have hown1 := own_belowW hown hb; have HB2 := Lib.hid (HB.out.trans (hb.mono HB.out.size)); have hsz2 := HB2.out.size; clear hb hown) | (at_builtin; refine app_rs Tryz.underlying22 hi0 hz0 hz1 hz2 rfl (by omega) encZ_len encZ_one _ rfl (.tmp 45) (.tmp 47) rfl w.heap.size _ m _ (by rfl) (hown1.alloc _) [z] 1 1 _ rfl (by rfl) (one_val _ z) (by omega) (by omega) (by simp; omega) ?_; intro A' c' w2 hown2 hg; have HB3 := Lib.hid (vals_step hown1 HB2.out hg); clear hg))
        go_region
        go_wp2
        go_ret3
        rw [← HZ.out]
        dsimp only
        exact ⟨⟨A', c', by rw [List.length_append, HM.out]; rfl, own_rdz hown2⟩, HB3.out.trans (below_drewN _ 1 |>.mono HB3.out.size)⟩
end Go.Proofs.YtmhmpobjjhbklaaGreatDoor
