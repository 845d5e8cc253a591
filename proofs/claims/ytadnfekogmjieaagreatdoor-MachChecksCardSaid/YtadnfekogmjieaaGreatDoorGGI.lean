/-
  Layer 51, plain: cutting and joining, words, numbers read back. (Put together of chapters 16's and 40's plain texts.)
  Layer 51, plain: the program's reader of an instruction; it reads exactly the lines of the printable ones.
  Layer 51, plain: the program's readers of the first line and of a function; they read exactly what Print prints.
  Layer 51, plain: the reference's readers read the same functions as the program's.
  Layer 51, plain: what Check asks of an instruction, by the program and by the reference.
  Layer 51, plain: Check, by the program and by the reference.
  Layer 51, plain: the reference's Print.
  Layer 51, plain: correct code: what it gives, with more registers, cut off, turned, printed.
  Layer 51, plain: the worked examples. (Printed by gen_ml2.py.)
  Layer 51, plain: the items of a module as the reference finds them.
  Layer 51, plain: what the reference asks of an instruction, in two parts.
-/
import Derived.Test.YtadnfekogmjieaaGreatDoorGGF
import Derived.Test.YtadnfekogmjieaaGreatDoorGGH
import Derived.Lib.ParseIntBTie
set_option linter.unusedVariables false
set_option linter.unusedSimpArgs false
namespace Go.Proofs.YtadnfekogmjieaaGreatDoor.Ltr
theorem decDigits_ten {n : Nat} (h : ¬ n < 10) : Lib.decDigits n = Lib.decDigits (n / 10) ++ [UInt8.ofNat (48 + n % 10)] := by rw [Lib.decDigits, dif_neg h]
theorem dig_fin : ∀ d : Fin 10, dig (UInt8.ofNat (48 + d.val)) = (d.val : Int) ∧ UInt8.ofNat (48 + d.val) ≠ 95 ∧ UInt8.ofNat (48 + d.val) ≠ 45 ∧ UInt8.ofNat (48 + d.val) ≠ 43 ∧ UInt8.ofNat (48 + d.val) ≠ 120 := by decide +kernel
theorem mgo_digit (d : Nat) (h : d < 10) (base : Nat) (hb : 10 ≤ base) (t : List UInt8) (a : Nat) (g : Bool) : mgo base (UInt8.ofNat (48 + d) :: t) a g = mgo base t (a * base + d) true := by
  obtain ⟨h1, h2, _⟩ := dig_fin ⟨d, h⟩
  simp only at h1 h2
  conv => lhs; unfold mgo
  have h3 : (UInt8.ofNat (48 + d) == 95) = false := by simpa only [beq_eq_false_iff_ne] using h2
  rw [h1, h3, if_neg (by simp), if_neg (by omega), Int.toNat_natCast]
theorem mgo_dec (n : Nat) : ∀ (t : List UInt8) (a : Nat) (g : Bool), mgo 10 (Lib.decDigits n ++ t) a g = mgo 10 t (a * 10 ^ (Lib.decDigits n).length + n) true := by
  induction n using Nat.strongRecOn with
  | ind n ih =>
    intro t a g
    by_cases h : n < 10
    · rw [Lib.decDigits_one h]
      show mgo 10 (UInt8.ofNat (48 + n) :: t) a g = _
      rw [mgo_digit n h 10 (by omega)]
      rfl
    · rw [decDigits_ten h, List.append_assoc, ih (n / 10) (by omega)]
      show mgo 10 (UInt8.ofNat (48 + n % 10) :: t) _ true = _
      rw [mgo_digit (n % 10) (by omega) 10 (by omega), List.length_append, List.length_singleton, Nat.pow_succ]
      congr 1
      rw [Nat.add_mul, Nat.mul_assoc]
      omega
theorem dec_chars (n : Nat) : ∀ c ∈ Lib.decDigits n, ∃ d : Fin 10, c = UInt8.ofNat (48 + d.val) := by
  induction n using Nat.strongRecOn with
  | ind n ih =>
    intro c hc
    by_cases h : n < 10
    · rw [Lib.decDigits_one h] at hc
      exact ⟨⟨n, h⟩, List.mem_singleton.1 hc⟩
    · rw [decDigits_ten h] at hc
      rcases List.mem_append.1 hc with hc | hc
      · exact ih (n / 10) (by omega) c hc
      · exact ⟨⟨n % 10, by omega⟩, List.mem_singleton.1 hc⟩
theorem not_hexed {l : List UInt8} (h : ∀ c ∈ l, c ≠ 120) : hexed l = false := by
  unfold hexed
  cases hx : (l.take 2 == [48, 120]) with
  | false => simp
  | true =>
    exfalso
    have := eq_of_beq hx
    have hm : (120 : UInt8) ∈ l.take 2 := by rw [this]; simp
    exact h _ (List.mem_of_mem_take hm) rfl
theorem dec_not_x (n : Nat) : ∀ c ∈ Lib.decDigits n, c ≠ 120 := by
  intro c hc
  obtain ⟨d, rfl⟩ := dec_chars n c hc
  exact (dig_fin d).2.2.2.2
theorem mag_dec (n : Nat) : mag (Lib.decDigits n) = some (n, true) := by
  unfold mag
  rw [not_hexed (dec_not_x n), if_neg (by decide)]
  have := mgo_dec n [] 0 false
  rw [List.append_nil] at this
  rw [this, Nat.zero_mul, Nat.zero_add]
  rfl
theorem magR_some (n : Nat) (h : n < 18446744073709551616) : magR (some (n, true)) = (n, false, true) := by
  unfold magR
  dsimp only
  rw [Nat.mod_eq_of_lt h, decide_eq_false (by omega)]
end Go.Proofs.YtadnfekogmjieaaGreatDoor.Ltr
namespace Go.Proofs.YtadnfekogmjieaaGreatDoor.Mc
abbrev W := List UInt8
theorem index_head {c : UInt8} {t u v : W} (h : c ∉ u) : Lib.index (u ++ ((c :: t) ++ v)) (c :: t) = (u.length : Int) := by
  refine Lib.index_first (by simp) ?_ ?_
  · unfold Lib.occAt
    rw [List.drop_left]
    exact List.isPrefixOf_iff_prefix.2 (List.prefix_append _ _)
  · intro j hj
    rcases ho : Lib.occAt (u ++ ((c :: t) ++ v)) (c :: t) j with _ | _
    · rfl
    · have := Lib.occAt_head rfl ho
      rw [List.getElem?_append_left hj] at this
      exact absurd (List.mem_of_getElem? this) h
theorem index_miss {c : UInt8} {t s : W} (h : c ∉ s) : Lib.index s (c :: t) = -1 := by
  refine Lib.index_none fun j hj => ?_
  rcases ho : Lib.occAt s (c :: t) j with _ | _
  · rfl
  · exact absurd (List.mem_of_getElem? (Lib.occAt_head rfl ho)) h
theorem split_no {s sep : W} (h : Lib.index s sep = -1) : Lib.split s sep = [s] := by
  unfold Lib.split
  rw [Lib.count_miss h]
  rfl
theorem split_hit {s sep : W} {i : Nat} (hs : sep ≠ []) (h : Lib.index s sep = i) : Lib.split s sep = s.take i :: Lib.split (s.drop (i + sep.length)) sep := by
  unfold Lib.split
  have hne : ¬ ((Lib.index s sep == -1) = true) := by rw [h]; simp
  rw [Lib.count_hit hs h, Nat.add_comm 1, Lib.splitK, if_neg hne, h]
  simp
theorem joinTail_ne {l : List W} (sep : W) (h : l ≠ []) : Lib.joinTail sep l = sep ++ Lib.join l sep := by
  rcases l with _ | ⟨b, l⟩
  · exact absurd rfl h
  · rw [Lib.join_cons]; simp [Lib.joinTail]
theorem join_split (sep : W) (hs : sep ≠ []) (n : Nat) : ∀ s : W, s.length ≤ n → Lib.join (Lib.split s sep) sep = s ∧ Lib.split s sep ≠ [] := by
  have hsl : 0 < sep.length := List.length_pos_iff.2 hs
  induction n with
  | zero =>
    intro s h
    rcases Lib.index_spec s sep with ⟨h1, _⟩ | ⟨i, h1, h2, h3, _⟩
    · rw [split_no h1]; exact ⟨Lib.join_one _ _, by simp⟩
    · rcases Lib.occAt_room h3 with h' | h'
      · omega
      · exact absurd h' hs
  | succ n ih =>
    intro s h
    rcases Lib.index_spec s sep with ⟨h1, _⟩ | ⟨i, h1, h2, h3, _⟩
    · rw [split_no h1]; exact ⟨Lib.join_one _ _, by simp⟩
    · have hr : i + sep.length ≤ s.length := by
        rcases Lib.occAt_room h3 with h' | h'
        · exact h'
        · exact absurd h' hs
      rw [split_hit hs h1]
      refine ⟨?_, by simp⟩
      obtain ⟨e1, e2⟩ := ih (s.drop (i + sep.length)) (by rw [List.length_drop]; omega)
      rw [Lib.join_cons, joinTail_ne _ e2, e1]
      unfold Lib.occAt at h3
      obtain ⟨t, ht⟩ := List.isPrefixOf_iff_prefix.1 h3
      have : s.drop (i + sep.length) = t := by
        rw [← List.drop_drop, ← ht, List.drop_left]
      rw [this, ht, List.take_append_drop]
theorem split_join {c : UInt8} {t : W} : ∀ (L : List W), L ≠ [] → (∀ x ∈ L, c ∉ x) → Lib.split (Lib.join L (c :: t)) (c :: t) = L
  | [], h, _ => absurd rfl h
  | [x], _, hx => by rw [Lib.join_one, split_no (index_miss (hx x (by simp)))]
  | x :: y :: L, _, hx => by
    rw [Lib.join_cons, joinTail_ne _ (by simp), split_hit (by simp) (index_head (hx x (by simp)))]
    rw [List.take_left, ← List.append_assoc x, List.drop_left' (by simp)]
    rw [split_join (y :: L) (by simp) (fun z hz => hx z (by simp at hz ⊢; exact .inr hz))]
theorem join_mem {sep : W} {b : UInt8} : ∀ {L : List W}, b ∈ Lib.join L sep → b ∈ sep ∨ ∃ x ∈ L, b ∈ x
  | [], h => by simp [Lib.join, List.intercalate] at h
  | [x], h => by rw [Lib.join_one] at h; exact .inr ⟨x, by simp, h⟩
  | x :: y :: L, h => by
    rw [Lib.join_cons, joinTail_ne _ (by simp)] at h
    simp only [List.mem_append] at h
    rcases h with h | h | h
    · exact .inr ⟨x, by simp, h⟩
    · exact .inl h
    · rcases join_mem h with h | ⟨z, hz, hb⟩
      · exact .inl h
      · exact .inr ⟨z, List.mem_cons_of_mem _ hz, hb⟩
theorem trimP_len (s p : W) : (Lib.trimPrefix s p).length ≤ s.length := by unfold Lib.trimPrefix; split <;> simp
theorem cut_len (s p : W) : (Lib.cut s p).1.length ≤ s.length ∧ (Lib.cut s p).2.1.length ≤ s.length := by
  unfold Lib.cut
  split
  · dsimp only; rw [List.length_take, List.length_drop]; omega
  · simp
theorem split_len (s sep : W) (h1 : 1 ≤ sep.length) : (Lib.split s sep).length ≤ s.length + 1 := by
  have hsz : (ByteArray.mk s.toArray).size = s.length := by simp [ByteArray.size]
  have hsp : (ByteArray.mk sep.toArray).size = sep.length := by simp [ByteArray.size]
  have e3 : Lib.split s sep = (Lib.splitB ⟨sep.toArray⟩ 0 (Lib.countB ⟨s.toArray⟩ ⟨sep.toArray⟩) ⟨s.toArray⟩).map (·.data.toList) := by rw [Lib.splitB_data]; rfl
  rw [e3, List.length_map, Lib.splitB_all _ (by omega) _ _ _ rfl]
  have := Lib.countB_le ⟨sep.toArray⟩ (by omega) _ ⟨s.toArray⟩ (Nat.le_refl _)
  omega
theorem trimP_app (p s : W) : Lib.hasPrefix (p ++ s) p = true ∧ Lib.trimPrefix (p ++ s) p = s := by
  have h : Lib.hasPrefix (p ++ s) p = true := List.isPrefixOf_iff_prefix.2 (List.prefix_append _ _)
  refine ⟨h, ?_⟩
  unfold Lib.trimPrefix
  rw [if_pos h, List.drop_left]
theorem dec_small {n : Nat} (h : n < 10) : Lib.decDigits n = [UInt8.ofNat (48 + n)] := Lib.decDigits_one h
theorem dec_big {n : Nat} (h : ¬ n < 10) : Lib.decDigits n = Lib.decDigits (n / 10) ++ [UInt8.ofNat (48 + n % 10)] := Ltr.decDigits_ten h
def isD (b : UInt8) : Bool := decide (48 ≤ b.toNat) && decide (b.toNat ≤ 57)
theorem isD_digit (d : Nat) (h : d < 10) : isD (UInt8.ofNat (48 + d)) = true ∧ (UInt8.ofNat (48 + d)).toNat = 48 + d := by
  have : (UInt8.ofNat (48 + d)).toNat = 48 + d := by rw [UInt8.toNat_ofNat']; omega
  refine ⟨?_, this⟩
  unfold isD
  rw [this]
  simp; omega
theorem dec_isD (n : Nat) : ∀ b ∈ Lib.decDigits n, isD b = true := by
  induction n using Nat.strongRecOn with
  | _ n ih =>
    intro b hb
    by_cases h : n < 10
    · rw [dec_small h] at hb
      rw [List.mem_singleton.1 hb]
      exact (isD_digit n h).1
    · rw [dec_big h] at hb
      rcases List.mem_append.1 hb with hb | hb
      · exact ih _ (by omega) b hb
      · rw [List.mem_singleton.1 hb]
        exact (isD_digit (n % 10) (by omega)).1
theorem dec_ne (n : Nat) : Lib.decDigits n ≠ [] := by
  by_cases h : n < 10
  · rw [dec_small h]; simp
  · rw [dec_big h]; simp
theorem parseUintM_app (M : Nat) (a b : List UInt8) (acc v : Nat) (h : Lib.parseUintM M acc a = .ok v) : Lib.parseUintM M acc (a ++ b) = Lib.parseUintM M v b := by
  induction a generalizing acc with
  | nil => simp only [Lib.parseUintM] at h; injection h with h; rw [h]; rfl
  | cons c a ih =>
    simp only [Lib.parseUintM, List.cons_append] at h ⊢
    split at h
    · split at h
      · cases h
      · split at h
        · cases h
        · rename_i h1 h2 h3
          rw [if_pos h1, if_neg h2, if_neg h3]
          exact ih _ h
    · cases h
theorem parseUintM_dec (n : Nat) (hn : n < 18446744073709551616) : Lib.parseUintM 18446744073709551615 0 (Lib.decDigits n) = .ok n := by
  induction n using Nat.strongRecOn with
  | _ n ih =>
    by_cases h : n < 10
    · rw [dec_small h]
      obtain ⟨-, hd⟩ := isD_digit n h
      simp only [Lib.parseUintM, hd]
      rw [if_pos (by omega), if_neg (by omega), if_neg (by omega)]
      congr 1; omega
    · rw [dec_big h, parseUintM_app _ _ _ _ _ (ih (n / 10) (by omega) (by omega))]
      obtain ⟨-, hd⟩ := isD_digit (n % 10) (by omega)
      simp only [Lib.parseUintM, hd]
      rw [if_pos (by omega), if_neg (by omega), if_neg (by omega)]
      congr 1; omega
theorem parseUintB_dec {n : Nat} (hn : n < 18446744073709551616) : Lib.parseUintB 64 (Lib.decDigits n) = .ok n := by
  unfold Lib.parseUintB
  rw [if_neg (dec_ne n)]
  exact parseUintM_dec n hn
theorem puint_dec {n : Nat} (hn : n < 18446744073709551616) : puint (Lib.decDigits n) = (n, true) := by
  unfold puint
  rw [parseUintB_dec hn]
theorem puint_in (l : List UInt8) : (puint l).1 < 18446744073709551616 := by
  unfold puint
  rcases h : Lib.parseUintB 64 l with v | _ | _
  · have := Lib.parseUintB_le h
    simp only at this ⊢; omega
  · simp
  · simp
def w1 (w : List UInt8) : Bool := !(w == []) && w.all fun b => decide (33 ≤ b.toNat) && decide (b.toNat ≤ 126)
theorem w1_ne {w : List UInt8} (h : w1 w = true) : w ≠ [] := by unfold w1 at h; simp at h; exact h.1
theorem w1_mem {w : List UInt8} (h : w1 w = true) : ∀ b ∈ w, 33 ≤ b.toNat ∧ b.toNat ≤ 126 := by unfold w1 at h; simpa using (by simp at h; exact h.2)
theorem w1_dec (n : Nat) : w1 (Lib.decDigits n) = true := by
  unfold w1
  simp only [Bool.and_eq_true, List.all_eq_true]
  refine ⟨by simpa using dec_ne n, fun b hb => ?_⟩
  have := dec_isD n b hb
  unfold isD at this
  simp at this
  simp; omega
theorem w1_itoa (z : Int) : w1 (Lib.itoa z) = true := by
  have hi : Lib.itoa z = if z < 0 then 45 :: Lib.decDigits z.natAbs else Lib.decDigits z.toNat := rfl
  rw [hi]
  split
  · have := w1_dec z.natAbs
    unfold w1 at this ⊢
    simp at this ⊢
    exact this.2
  · exact w1_dec _
theorem w1_blank {w : List UInt8} (h : w1 w = true) : ∀ b ∈ w, b ≠ 32 := fun b hb e => by
  have := w1_mem h b hb
  subst e
  revert this; decide
set_option maxRecDepth 100000 in
theorem w1_ops : ∀ x ∈ Opc.all, w1 x.2 = true := by decide +kernel
def opFind (w : W) : Int × Bool := match Opc.seek w Opc.all with | some op => (op, true) | none => (0, false)
set_option maxRecDepth 100000 in
theorem op_rows : ∀ x ∈ Opc.all, (Opc.look x.1 Opc.all = some x.2) ∧ (x.1 = 28 ∨ Opc.seek x.2 Opc.all = some x.1) := by decide +kernel
set_option maxRecDepth 100000 in
theorem op_range : ∀ x ∈ Opc.all, 0 ≤ x.1 ∧ x.1 ≤ 64529 := by decide +kernel
theorem opFind_name {op : Int} (h : Opc.known op = true) (h28 : op ≠ 28) : opFind (Opc.name op) = (op, true) := by
  unfold Opc.known at h
  unfold Opc.name opFind
  rcases hl : Opc.look op Opc.all with _ | s
  · rw [hl] at h; cases h
  · have := (op_rows _ (look_mem hl)).2.resolve_left h28
    simp only [Option.getD_some]
    rw [this]
theorem seek_mem {w : W} {op : Int} {l : List (Int × List UInt8)} (h : Opc.seek w l = some op) : (op, w) ∈ l := by
  induction l with
  | nil => cases h
  | cons r l ih =>
    rw [Opc.seek] at h
    split at h
    · rename_i hr
      cases h; subst hr; simp
    · exact List.mem_cons_of_mem _ (ih h)
def valsP (ws : List W) : List Int × Bool := if ws.all (fun w => (Ty.find w).2) then (ws.map (fun w => (Ty.find w).1), true) else ([], false)
theorem name_facts {v : Int} (h : Ty.val v = true) : Ty.find (Ty.name v) = (v, true) ∧ Ty.shown v = Ty.name v ∧ w1 (Ty.name v) = true ∧ 44 ∉ Ty.name v ∧ 41 ∉ Ty.name v ∧ Ty.name v ≠ [] := by
  rcases Ty.five v with rfl | rfl | rfl | rfl | h'
  all_goals first | decide | (rw [Ty.val_no h'] at h; cases h)
theorem find_val {w : W} (h : (Ty.find w).2 = true) : Ty.val (Ty.find w).1 = true ∧ 3 ≤ w.length := by
  unfold Ty.find at h ⊢
  split
  · rename_i e; rw [← e]; decide
  · split
    · rename_i e; rw [← e]; decide
    · split
      · rename_i e; rw [← e]; decide
      · split
        · rename_i e; rw [← e]; decide
        · rename_i a b c d
          rw [if_neg a, if_neg b, if_neg c, if_neg d] at h
          cases h
theorem valsP_back {l : List Int} (h : l.all Ty.val = true) : valsP (l.map Ty.name) = (l, true) := by
  have hv : ∀ v ∈ l, Ty.find (Ty.name v) = (v, true) := fun v hv => (name_facts (List.all_eq_true.1 h v hv)).1
  have h1 : ((l.map Ty.name).all fun w => (Ty.find w).2) = true := by
    rw [List.all_eq_true]
    intro w hw
    obtain ⟨v, hv', rfl⟩ := List.mem_map.1 hw
    rw [hv v hv']
  have h2 : ((l.map Ty.name).map fun w => (Ty.find w).1) = l := by
    rw [List.map_map]
    refine Eq.trans (List.map_congr_left fun v hv' => ?_) (List.map_id l)
    simp [hv v hv']
  unfold valsP
  rw [if_pos h1, h2]
theorem shown_name {l : List Int} (h : l.all Ty.val = true) : l.map Ty.shown = l.map Ty.name := List.map_congr_left fun v hv => (name_facts (List.all_eq_true.1 h v hv)).2.1
end Go.Proofs.YtadnfekogmjieaaGreatDoor.Mc
set_option linter.unusedVariables false
set_option linter.unusedSimpArgs false
namespace Go.Proofs.YtadnfekogmjieaaGreatDoor.Mc
structure Rs where
  l : List W
  ok : Bool
def natP (w : W) : Int × Bool := ((Ltr.natF w 4294967295).1, (Ltr.natF w 4294967295).2 == 0)
def nxt (r : Rs) : Rs := ⟨r.l.tail, r.ok && !r.l.isEmpty⟩
def numO (r : Rs) : Int × Rs := ((natP (r.l.headD [])).1, ⟨r.l.tail, (r.ok && !r.l.isEmpty) && (natP (r.l.headD [])).2⟩)
def isPl (w : W) : Bool := decide (1 < w.length) && (w.head? == some 114 || w.head? == some 115)
def spotsGo : List W → Bool → List Pl × Rs
  | [], ok => ([], ⟨[], ok⟩)
  | w :: l, ok => if isPl w then (⟨w.head? == some 115, (natP w.tail).1⟩ :: (spotsGo l (ok && (natP w.tail).2)).1, (spotsGo l (ok && (natP w.tail).2)).2) else ([], ⟨w :: l, ok⟩)
def numsGo : List W → Bool → List Int × Bool
  | [], ok => ([], ok)
  | w :: l, ok => ((natP w).1 :: (numsGo l (ok && (natP w).2)).1, (numsGo l (ok && (natP w).2)).2)
def kindTo (w : W) : Nat → Int
  | 0 => -1
  | i + 1 => if (row (i : Int)).w = w then (i : Int) else kindTo w i
def kindO (w : W) : Int := kindTo w 24
def optOp (b : Bool) (r : Rs) : Int × Rs := if b then ((opFind (r.l.headD [])).1, nxt r) else (0, r)
def optNum (b : Bool) (r : Rs) : Int × Rs := if b then numO r else (0, r)
def optN (b : Bool) (r : Rs) : Nat × Rs := if b then ((puint (r.l.headD [])).1, nxt r) else (0, r)
def srcO (r : Rs) : List Pl × Rs := if r.l.head? = some [61] then spotsGo r.l.tail r.ok else ([], r)
def toO (r : Rs) : List Int × Rs := if r.l.head? = some [58] then ((numsGo r.l.tail r.ok).1, ⟨[], (numsGo r.l.tail r.ok).2⟩) else ([], r)
def insF (k : Int) (r : Rs) : Mi × Rs :=
  let o := optOp (row k).op r
  let a := optNum (row k).a o.2
  let b := optNum (row k).b a.2
  let n := optN (row k).n b.2
  let t := optNum (row k).t n.2
  let d := spotsGo t.2.l t.2.ok
  let s := srcO d.2
  let z := toO s.2
  (⟨k, o.1, a.1, b.1, n.1, d.1, s.1, z.1, t.1⟩, z.2)
def mi0 : Mi := ⟨0, 0, 0, 0, 0, [], [], [], 0⟩
def insP (s : W) : Mi × Bool :=
  if kindO ((Lib.split s [32]).headD []) < 0 then (mi0, false)
  else ((insF (kindO ((Lib.split s [32]).headD [])) ⟨(Lib.split s [32]).tail, true⟩).1, (insF (kindO ((Lib.split s [32]).headD [])) ⟨(Lib.split s [32]).tail, true⟩).2.ok && ((insF (kindO ((Lib.split s [32]).headD [])) ⟨(Lib.split s [32]).tail, true⟩).2.l == [] && line (insF (kindO ((Lib.split s [32]).headD [])) ⟨(Lib.split s [32]).tail, true⟩).1 == s))
/-! Numbers. -/
theorem index_nat {z : Int} (h : index z = true) : ∃ n : Nat, z = n ∧ n ≤ 4294967295 := by
  unfold index within at h
  simp only [Bool.and_eq_true, decide_eq_true_eq] at h
  exact ⟨z.toNat, by omega, by omega⟩
theorem itoa_nat (n : Nat) : Lib.itoa (n : Int) = Lib.decDigits n := by
  show (if (n : Int) < 0 then _ else _) = _
  rw [if_neg (by omega)]; rfl
theorem natP_itoa {z : Int} (h : index z = true) : natP (Lib.itoa z) = (z, true) := by
  obtain ⟨n, rfl, hn⟩ := index_nat h
  rw [itoa_nat]
  unfold natP Ltr.natF
  rw [Ltr.mag_dec, Ltr.magR_some n (by omega)]
  dsimp only
  rw [if_neg (by decide), if_neg (by simp; omega)]
  simp
theorem itoa_ne {z : Int} : Lib.itoa z ≠ [] := w1_ne (w1_itoa z)
/-! What was written is read. -/
theorem optOp_back {b : Bool} {op : Int} (l : List W) (ok : Bool) (h0 : b = false → op = 0) (h1 : b = true → Opc.known op = true ∧ op ≠ 28) : optOp b ⟨(if b then [Opc.name op] else []) ++ l, ok⟩ = (op, ⟨l, ok⟩) := by
  rcases b with _ | _
  · simp [optOp, h0]
  · obtain ⟨h2, h3⟩ := h1 rfl
    simp [optOp, nxt, opFind_name h2 h3]
theorem optNum_back {b : Bool} {z : Int} (l : List W) (ok : Bool) (h0 : b = false → z = 0) (h1 : b = true → index z = true) : optNum b ⟨(if b then [Lib.itoa z] else []) ++ l, ok⟩ = (z, ⟨l, ok⟩) := by
  rcases b with _ | _
  · simp [optNum, h0]
  · simp [optNum, numO, natP_itoa (h1 rfl)]
theorem optN_back {b : Bool} {n : Nat} (l : List W) (ok : Bool) (h0 : b = false → n = 0) (h1 : n < 18446744073709551616) : optN b ⟨(if b then [Lib.decDigits n] else []) ++ l, ok⟩ = (n, ⟨l, ok⟩) := by
  rcases b with _ | _
  · simp [optN, h0]
  · simp [optN, nxt, puint_dec h1]
theorem isPl_plW (p : Pl) : isPl (plW p) = true := by
  have := List.length_pos_iff.2 (itoa_ne (z := p.n))
  unfold isPl plW
  rcases p.slot with _ | _ <;> simp <;> omega
theorem spotsGo_back {l : List W} (hl : ∀ w, l.head? = some w → isPl w = false) : ∀ (z : List Pl) (ok : Bool), (∀ p ∈ z, index p.n = true) → spotsGo (z.map plW ++ l) ok = (z, ⟨l, ok⟩)
  | [], ok, _ => by
    rcases l with _ | ⟨w, l⟩
    · rfl
    · rw [List.map_nil, List.nil_append, spotsGo, hl w rfl]; rfl
  | p :: z, ok, h => by
    have ht : (plW p).tail = Lib.itoa p.n := rfl
    have hs : ((plW p).head? == some 115) = p.slot := by unfold plW; rcases p.slot with _ | _ <;> rfl
    rw [List.map_cons, List.cons_append, spotsGo, isPl_plW, if_pos rfl, ht, natP_itoa (h p (by simp)), hs, Bool.and_true, spotsGo_back hl z ok (fun q hq => h q (by simp [hq]))]
theorem numsGo_back : ∀ (z : List Int) (ok : Bool), (∀ n ∈ z, index n = true) → numsGo (z.map Lib.itoa) ok = (z, ok)
  | [], ok, _ => rfl
  | n :: z, ok, h => by
    rw [List.map_cons, numsGo, natP_itoa (h n (by simp)), Bool.and_true, numsGo_back z ok (fun q hq => h q (by simp [hq]))]
set_option maxRecDepth 100000 in
theorem kind_row : ∀ k : Fin 24, kindO (row ((k.val : Nat) : Int)).w = ((k.val : Nat) : Int) := by decide +kernel
set_option maxRecDepth 100000 in
theorem kind_nil : kindO [] = -1 := by decide +kernel
set_option maxRecDepth 100000 in
theorem w1_rows : ∀ k : Fin 24, w1 (row ((k.val : Nat) : Int)).w = true := by decide +kernel
theorem kindTo_cases (w : W) : ∀ n : Nat, kindTo w n = -1 ∨ ∃ i : Nat, i < n ∧ kindTo w n = (i : Int) ∧ (row (i : Int)).w = w
  | 0 => .inl rfl
  | n + 1 => by
    unfold kindTo
    split
    · rename_i h; exact .inr ⟨n, by omega, rfl, h⟩
    · rcases kindTo_cases w n with h | ⟨i, h1, h2, h3⟩
      · exact .inl h
      · exact .inr ⟨i, by omega, h2, h3⟩
theorem kindO_cases (w : W) : kindO w = -1 ∨ ∃ i : Nat, i ≤ 23 ∧ kindO w = (i : Int) ∧ (row (i : Int)).w = w := by
  rcases kindTo_cases w 24 with h | ⟨i, h1, h2, h3⟩
  · exact .inl h
  · exact .inr ⟨i, by omega, h2, h3⟩
structure Told (x : Mi) : Prop where
  kind : ∃ k : Nat, x.kind = k ∧ k ≤ 23
  op0 : (row x.kind).op = false → x.op = 0
  op1 : (row x.kind).op = true → Opc.known x.op = true ∧ x.op ≠ 28
  a0 : (row x.kind).a = false → x.a = 0
  a1 : index x.a = true
  b0 : (row x.kind).b = false → x.b = 0
  b1 : index x.b = true
  n0 : (row x.kind).n = false → x.n = 0
  t0 : (row x.kind).t = false → x.trap = 0
  t1 : 0 ≤ x.trap ∧ x.trap ≤ 12
  d : ∀ p ∈ x.d, index p.n = true
  s : ∀ p ∈ x.s, index p.n = true
  tos : ∀ z ∈ x.tos, index z = true
theorem any_far {l : List Pl} : l.any far = false ↔ ∀ p ∈ l, index p.n = true := by
  rw [List.any_eq_false]
  exact forall_congr' fun p => forall_congr' fun _ => by unfold far; simp
theorem any_farN {l : List Int} : l.any farN = false ↔ ∀ p ∈ l, index p = true := by
  rw [List.any_eq_false]
  exact forall_congr' fun p => forall_congr' fun _ => by unfold farN; simp
theorem told_iff (x : Mi) : told x = true ↔ Told x := by
  unfold told toldA spare spareR within
  simp only [Bool.and_eq_true, Bool.not_eq_true', decide_eq_true_eq, decide_eq_false_iff_not, any_far, any_farN, Bool.or_eq_true, beq_iff_eq, Bool.and_eq_false_iff, Bool.not_eq_false', Bool.or_eq_false_iff, beq_eq_false_iff_ne]
  constructor
  · rintro ⟨⟨⟨⟨⟨⟨⟨hk, ⟨⟨⟨h1, h2⟩, h3⟩, h4⟩, h5⟩, h6⟩, h7⟩, h8⟩, h9⟩, h10⟩, ⟨h11, h12⟩, h13⟩
    exact ⟨⟨x.kind.toNat, by omega, by omega⟩, fun e => h1.resolve_left (by rw [e]; decide), fun e => h6.resolve_left (by rw [e]; decide), fun e => h2.resolve_left (by rw [e]; decide), h7, fun e => h3.resolve_left (by rw [e]; decide), h8, fun e => h4.resolve_left (by rw [e]; decide), fun e => h5.resolve_left (by rw [e]; decide), by omega, h11, h12, h13⟩
  · intro h
    obtain ⟨k, hk, hk2⟩ := h.kind
    have tf : ∀ (b : Bool) (p : Prop), (b = false → p) → b = true ∨ p := fun b p h => by
      rcases b with _ | _
      · exact .inr (h rfl)
      · exact .inl rfl
    refine ⟨⟨⟨⟨⟨⟨⟨by omega, ⟨⟨⟨tf _ _ h.op0, tf _ _ h.a0⟩, tf _ _ h.b0⟩, tf _ _ h.n0⟩, tf _ _ h.t0⟩, ?_⟩, h.a1⟩, h.b1⟩, by have := h.t1; omega⟩, by have := h.t1; omega⟩, ⟨h.d, h.s⟩, h.tos⟩
    rcases hb : (row x.kind).op with _ | _
    · exact .inl rfl
    · exact .inr (h.op1 hb)
theorem w1_plW (p : Pl) : w1 (plW p) = true := by
  have := w1_itoa p.n
  unfold plW
  unfold w1 at this ⊢
  rcases p.slot with _ | _ <;> simp at this ⊢ <;> exact this.2
theorem w1_name {op : Int} (h : Opc.known op = true) : w1 (Opc.name op) = true := by
  unfold Opc.known at h
  unfold Opc.name
  rcases hl : Opc.look op Opc.all with _ | s
  · rw [hl] at h; cases h
  · exact w1_ops _ (look_mem hl)
theorem w1_lineW {x : Mi} (h : Told x) : ∀ w ∈ lineW x, w1 w = true := by
  have hif : ∀ (b : Bool) (u w : W), (b = true → w1 u = true) → w ∈ (if b then [u] else []) → w1 w = true := fun b u w h hw => by
    rcases b with _ | _
    · simp at hw
    · simp at hw; rw [hw]; exact h rfl
  intro w hw
  unfold lineW opsW at hw
  simp only [List.mem_cons, List.mem_append] at hw
  rcases hw with rfl | (hw | hw | hw | hw | hw) | hw | hw
  · obtain ⟨k, hk, hk2⟩ := h.kind
    rw [hk]
    exact w1_rows ⟨k, by omega⟩
  · exact hif _ _ _ (fun e => w1_name (h.op1 e).1) hw
  · exact hif _ _ _ (fun _ => w1_itoa _) hw
  · exact hif _ _ _ (fun _ => w1_itoa _) hw
  · exact hif _ _ _ (fun _ => w1_dec _) hw
  · exact hif _ _ _ (fun _ => w1_itoa _) hw
  · unfold placesW at hw
    split at hw
    · cases hw
    · rcases List.mem_append.1 hw with hw | hw
      · obtain ⟨p, _, rfl⟩ := List.mem_map.1 hw; exact w1_plW p
      · rcases List.mem_cons.1 hw with rfl | hw
        · decide
        · obtain ⟨p, _, rfl⟩ := List.mem_map.1 hw; exact w1_plW p
  · unfold toW at hw
    split at hw
    · cases hw
    · rcases List.mem_cons.1 hw with rfl | hw
      · decide
      · obtain ⟨p, _, rfl⟩ := List.mem_map.1 hw; exact w1_itoa p
theorem split_line {x : Mi} (h : Told x) : Lib.split (line x) [32] = lineW x := by
  unfold line
  rw [if_pos ((told_iff x).2 h)]
  exact split_join _ (by unfold lineW; simp) (fun w hw hm => w1_blank (w1_lineW h w hw) 32 hm rfl)
theorem toO_back (z : List Int) (hz : ∀ n ∈ z, index n = true) (ok : Bool) : toO ⟨if z = [] then [] else [58] :: z.map Lib.itoa, ok⟩ = (z, ⟨[], ok⟩) := by
  unfold toO
  by_cases hz0 : z = []
  · subst hz0; rfl
  · rw [if_neg hz0]
    dsimp only
    rw [if_pos (by rfl), List.tail_cons, numsGo_back z ok hz]
theorem places_back (x : Mi) (hd : ∀ p ∈ x.d, index p.n = true) (hs : ∀ p ∈ x.s, index p.n = true) (ok : Bool) :
    (spotsGo (placesW x ++ toW x) ok).1 = x.d ∧ srcO (spotsGo (placesW x ++ toW x) ok).2 = (x.s, ⟨toW x, ok⟩) := by
  have ht : ∀ w, (toW x).head? = some w → isPl w = false := by
    intro w hw
    unfold toW at hw
    split at hw
    · cases hw
    · cases hw; decide
  unfold placesW
  split
  · rename_i h
    have := spotsGo_back ht [] ok (by simp)
    rw [List.map_nil, List.nil_append] at this
    rw [List.nil_append, this, h.1, h.2]
    refine ⟨rfl, ?_⟩
    unfold srcO
    rw [if_neg]
    intro e
    dsimp only at e
    unfold toW at e
    split at e
    · cases e
    · cases e
  · rw [List.append_assoc, List.cons_append, spotsGo_back (fun w hw => by cases hw; decide) x.d ok hd]
    refine ⟨rfl, ?_⟩
    unfold srcO
    dsimp only
    rw [if_pos (by rfl), List.tail_cons, spotsGo_back ht x.s ok hs]
theorem insF_back {x : Mi} (h : Told x) (hn : x.n < 18446744073709551616) (ok : Bool) : insF x.kind ⟨opsW (row x.kind) x ++ (placesW x ++ toW x), ok⟩ = (x, ⟨[], ok⟩) := by
  unfold insF opsW
  simp only [List.append_assoc]
  rw [optOp_back _ ok h.op0 h.op1]
  dsimp only
  rw [optNum_back _ ok h.a0 (fun _ => h.a1)]
  dsimp only
  rw [optNum_back _ ok h.b0 (fun _ => h.b1)]
  dsimp only
  rw [optN_back _ ok h.n0 hn]
  dsimp only
  rw [optNum_back _ ok h.t0 (fun _ => by have := h.t1; unfold index within; simp; omega)]
  dsimp only
  obtain ⟨e1, e2⟩ := places_back x h.d h.s ok
  rw [e1, e2]
  dsimp only
  unfold toW
  rw [toO_back x.tos h.tos ok]
theorem insP_back {x : Mi} (h : told x = true) (hn : x.n < 18446744073709551616) : insP (line x) = (x, true) := by
  have H := (told_iff x).1 h
  obtain ⟨k, hk, hk2⟩ := H.kind
  have e : kindO ((lineW x).headD []) = x.kind := by
    show kindO (row x.kind).w = x.kind
    rw [hk]
    exact kind_row ⟨k, by omega⟩
  have et : (lineW x).tail = opsW (row x.kind) x ++ (placesW x ++ toW x) := rfl
  unfold insP
  rw [split_line H, e, et, insF_back H hn, if_neg (by omega)]
  simp
theorem split_nil : Lib.split [] [32] = [[]] := split_no (index_miss (by simp))
theorem insP_some {s : W} (h : (insP s).2 = true) : told (insP s).1 = true ∧ line (insP s).1 = s := by
  have hs : s ≠ [] := fun e => by
    subst e
    unfold insP at h
    rw [split_nil, List.headD_cons, kind_nil] at h
    exact absurd h (by decide)
  unfold insP at h ⊢
  split
  · rename_i hk; rw [if_pos hk] at h; cases h
  · rename_i hk
    rw [if_neg hk] at h
    simp only [Bool.and_eq_true, beq_iff_eq] at h
    obtain ⟨h1, h2, h3⟩ := h
    dsimp only
    refine ⟨?_, h3⟩
    rcases ht : told (insF (kindO ((Lib.split s [32]).headD [])) ⟨(Lib.split s [32]).tail, true⟩).1 with _ | _
    · exfalso
      unfold line at h3
      rw [ht, if_neg (by decide)] at h3
      exact hs h3.symm
    · rfl
end Go.Proofs.YtadnfekogmjieaaGreatDoor.Mc
set_option linter.unusedVariables false
set_option linter.unusedSimpArgs false
namespace Go.Proofs.YtadnfekogmjieaaGreatDoor.Mc
def lFunc : W := [102, 117, 110, 99, 32]
def lSlots : W := [32, 115, 108, 111, 116, 115, 32]
def lArrow : W := [32, 45, 62, 32]
def valsO (s : W) : List Int × Bool :=
  if s.length < 2 ∨ s.head? ≠ some 40 ∨ s.getLast? ≠ some 41 then ([], false)
  else if s = [40, 41] then ([], true)
  else valsP (Lib.split ((s.take (s.length - 1)).drop 1) [44, 32])
def cutA (s : W) : W × W × Bool := Lib.cut (Lib.trimPrefix s lFunc) lSlots
def cutB (s : W) : W × W × Bool := Lib.cut (cutA s).1 lArrow
def headerP (s : W) : ((List Int × List Int) × Int) × Bool :=
  if Lib.hasPrefix s lFunc && ((cutA s).2.2 && (cutB s).2.2) then
    ((((valsO (cutB s).1).1, (valsO (cutB s).2.1).1), (natP (cutA s).2.1).1),
      (((valsO (cutB s).1).2 && (valsO (cutB s).2.1).2) && (natP (cutA s).2.1).2) && (head (valsO (cutB s).1).1 (valsO (cutB s).2.1).1 (natP (cutA s).2.1).1 == s))
  else ((([], []), 0), false)
theorem index_two {c d : UInt8} {t u v : W} (h : d ∉ u) (hcd : d ≠ c) : Lib.index (u ++ ((c :: d :: t) ++ v)) (c :: d :: t) = (u.length : Int) := by
  refine Lib.index_first (by simp) ?_ ?_
  · unfold Lib.occAt
    rw [List.drop_left]
    exact List.isPrefixOf_iff_prefix.2 (List.prefix_append _ _)
  · intro j hj
    rcases ho : Lib.occAt (u ++ ((c :: d :: t) ++ v)) (c :: d :: t) j with _ | _
    · rfl
    · exfalso
      unfold Lib.occAt at ho
      obtain ⟨r, hr⟩ := List.isPrefixOf_iff_prefix.1 ho
      have h1 : (u ++ ((c :: d :: t) ++ v))[j + 1]? = some d := by
        rw [← List.getElem?_drop, ← hr]; rfl
      by_cases h2 : j + 1 < u.length
      · rw [List.getElem?_append_left h2] at h1
        exact h (List.mem_of_getElem? h1)
      · have h3 : j + 1 = u.length := by omega
        rw [h3, List.getElem?_append_right (Nat.le_refl _), Nat.sub_self] at h1
        simp at h1
        exact hcd h1.symm
theorem cut_hit {s u v sep : W} (hs : s = u ++ (sep ++ v)) (h : Lib.index s sep = (u.length : Int)) : Lib.cut s sep = (u, v, true) := by
  subst hs
  unfold Lib.cut
  rw [h, if_pos (by omega), Int.toNat_natCast, List.take_left, ← List.append_assoc, List.drop_left' (by simp)]
theorem right_val {l : List Int} (h : Ty.right l = true) : l.all Ty.val = true ∧ l.length ≤ 8 := by
  unfold Ty.right at h
  simp only [Bool.and_eq_true, decide_eq_true_eq] at h
  exact ⟨h.2, h.1⟩
theorem name_chars {v : Int} (h : Ty.val v = true) : 115 ∉ Ty.name v ∧ 45 ∉ Ty.name v ∧ 10 ∉ Ty.name v := by
  rcases Ty.five v with rfl | rfl | rfl | rfl | h'
  all_goals first | decide | (rw [Ty.val_no h'] at h; cases h)
theorem list_no {l : List Int} (h : l.all Ty.val = true) (b : UInt8) (h1 : b ∉ ([40, 41, 44, 32] : W)) (h2 : ∀ v, Ty.val v = true → b ∉ Ty.name v) : b ∉ Ty.list l := fun hm => by
  unfold Ty.list at hm
  rw [shown_name h] at hm
  simp only [List.mem_cons, List.mem_append, List.not_mem_nil, or_false] at hm h1
  rcases hm with hm | hm | hm
  · exact h1 (.inl hm)
  · rcases join_mem hm with hm | ⟨x, hx, hb⟩
    · simp only [List.mem_cons, List.not_mem_nil, or_false] at hm
      exact h1 (hm.elim (fun e => .inr (.inr (.inl e))) (fun e => .inr (.inr (.inr e))))
    · obtain ⟨v, hv, rfl⟩ := List.mem_map.1 hx
      exact h2 v (List.all_eq_true.1 h v hv) hb
  · exact h1 (.inr (.inl hm))
theorem join_names_ne {l : List Int} (h : l.all Ty.val = true) (hl : l ≠ []) : Lib.join (l.map Ty.name) [44, 32] ≠ [] := by
  rcases l with _ | ⟨v, l⟩
  · exact absurd rfl hl
  · have := (name_facts (List.all_eq_true.1 h v (by simp))).2.2.2.2.2
    rw [List.map_cons, Lib.join_cons]
    simp [this]
theorem valsO_back {l : List Int} (h : l.all Ty.val = true) : valsO (Ty.list l) = (l, true) := by
  obtain ⟨J, hJ⟩ : ∃ J, Lib.join (l.map Ty.name) [44, 32] = J := ⟨_, rfl⟩
  have e : Ty.list l = 40 :: (J ++ [41]) := by unfold Ty.list; rw [shown_name h, hJ]
  unfold valsO
  rw [e, if_neg (by
    simp only [not_or, Decidable.not_not]
    refine ⟨by simp, rfl, ?_⟩
    rw [← List.cons_append, List.getLast?_append]; rfl)]
  by_cases hl : l = []
  · subst hl
    have : J = [] := by rw [← hJ]; rfl
    subst this
    rfl
  · have hne := join_names_ne h hl
    rw [hJ] at hne
    rw [if_neg (by
      intro e2
      injection e2 with _ e2
      rcases J with _ | ⟨a, J⟩
      · exact hne rfl
      · have := congrArg List.length e2; simp at this)]
    have e3 : ((40 :: (J ++ [41])).take ((40 :: (J ++ [41])).length - 1)).drop 1 = J := by
      rw [show (40 :: (J ++ [41])).length - 1 = (40 :: J).length by simp, ← List.cons_append, List.take_left]; rfl
    rw [e3, ← hJ, split_join _ (by simp [hl]) (fun x hx => by
      obtain ⟨z, hz, rfl⟩ := List.mem_map.1 hx
      exact (name_facts (List.all_eq_true.1 h z hz)).2.2.2.1), valsP_back h]
theorem head_may {ps rs : List Int} {slots : Int} (h : head ps rs slots ≠ []) : (Ty.right ps = true ∧ Ty.right rs = true ∧ index slots = true) ∧ head ps rs slots = lFunc ++ (Ty.text ps rs ++ (lSlots ++ Lib.itoa slots)) := by
  unfold head at h ⊢
  split
  · rename_i h1
    simp only [Bool.and_eq_true] at h1
    exact ⟨⟨h1.1.1, h1.1.2, h1.2⟩, rfl⟩
  · rename_i h1; rw [if_neg h1] at h; exact absurd rfl h
theorem headerP_back {ps rs : List Int} {slots : Int} (h : head ps rs slots ≠ []) : headerP (head ps rs slots) = (((ps, rs), slots), true) := by
  obtain ⟨⟨h1, h2, h3⟩, e⟩ := head_may h
  have v1 := (right_val h1).1
  have v2 := (right_val h2).1
  obtain ⟨a1, a2⟩ := trimP_app lFunc (Ty.text ps rs ++ (lSlots ++ Lib.itoa slots))
  have n1 : 115 ∉ Ty.text ps rs := by
    unfold Ty.text
    simp only [List.mem_append, not_or]
    exact ⟨list_no v1 _ (by decide) (fun v hv => (name_chars hv).1), by decide, list_no v2 _ (by decide) (fun v hv => (name_chars hv).1)⟩
  have n2 : 45 ∉ Ty.list ps := list_no v1 _ (by decide) (fun v hv => (name_chars hv).2.1)
  have c1 : cutA (head ps rs slots) = (Ty.text ps rs, Lib.itoa slots, true) := by
    unfold cutA
    rw [e, a2]
    exact cut_hit rfl (index_two n1 (by decide))
  have c2 : cutB (head ps rs slots) = (Ty.list ps, Ty.list rs, true) := by
    unfold cutB
    rw [c1]
    exact cut_hit rfl (index_two n2 (by decide))
  have p1 : Lib.hasPrefix (head ps rs slots) lFunc = true := by rw [e]; exact a1
  unfold headerP
  rw [c1, c2, p1, if_pos (by rfl)]
  dsimp only
  rw [valsO_back v1, valsO_back v2, natP_itoa h3]
  simp
def mf0 : Mf := ⟨[], [], 0, []⟩
def addI (f : Mf) (x : Mi) : Mf := ⟨f.ps, f.rs, f.slots, f.code ++ [x]⟩
def runP : Nat → Mf → List W → Mf × Int × Int
  | _, _, [] => (mf0, 1, 4)
  | i, f, [w] => if w = [] then (f, 0, 0) else (mf0, (i : Int), 4)
  | i, f, w :: u :: l => if (insP w).2 then runP (i + 1) (addI f (insP w).1) (u :: l) else (mf0, (i : Int), 4)
def mfH (h : (List Int × List Int) × Int) : Mf := ⟨h.1.1, h.1.2, h.2, []⟩
def parseO (s : W) : Mf × Int × Int :=
  if (headerP ((Lib.split s [10]).headD [])).2 = true ∧ (Lib.split s [10]).length ≠ 1 then runP 2 (mfH (headerP ((Lib.split s [10]).headD [])).1) (Lib.split s [10]).tail else (mf0, 1, 4)
def May (f : Mf) : Prop := head f.ps f.rs f.slots ≠ [] ∧ ∀ x ∈ f.code, told x = true
theorem line_ne {x : Mi} (h : told x = true) : line x ≠ [] := by
  have H := (told_iff x).1 h
  have := w1_ne (w1_lineW H (row x.kind).w (by unfold lineW; simp))
  unfold line
  rw [if_pos h]
  unfold lineW
  rw [Lib.join_cons]
  simp [this]
theorem line_no {x : Mi} (h : told x = false) : line x = [] := by unfold line; rw [h]; rfl
theorem printGo_some : ∀ (l : List Mi) (t : W), printGo l = some t → (∀ x ∈ l, told x = true) ∧ t = Lib.join (l.map line ++ [[]]) [10]
  | [], t, h => by cases h; exact ⟨by simp, rfl⟩
  | x :: l, t, h => by
    unfold printGo at h
    split at h
    · cases h
    · rename_i h1
      obtain ⟨u, hu, rfl⟩ := Option.map_eq_some_iff.1 h
      obtain ⟨a, rfl⟩ := printGo_some l u hu
      refine ⟨fun y hy => ?_, ?_⟩
      · rcases List.mem_cons.1 hy with rfl | hy
        · rcases ht : told y with _ | _
          · exact absurd (line_no ht) h1
          · rfl
        · exact a y hy
      · rw [List.map_cons, List.cons_append, Lib.join_cons, joinTail_ne _ (by simp)]; rfl
theorem printGo_may : ∀ (l : List Mi), (∀ x ∈ l, told x = true) → ∃ t, printGo l = some t
  | [], _ => ⟨[], rfl⟩
  | x :: l, h => by
    obtain ⟨t, ht⟩ := printGo_may l (fun y hy => h y (by simp [hy]))
    unfold printGo
    rw [if_neg (line_ne (h x (by simp))), ht]
    exact ⟨_, rfl⟩
theorem print_may (f : Mf) : print f ≠ [] ↔ May f := by
  unfold print May
  split
  · rename_i h; exact ⟨fun h' => absurd rfl h', fun h' => absurd h h'.1⟩
  · rename_i h
    constructor
    · intro h2
      rcases hg : printGo f.code with _ | t
      · rw [hg] at h2; exact absurd rfl h2
      · exact ⟨h, (printGo_some _ _ hg).1⟩
    · rintro ⟨-, h2⟩
      obtain ⟨t, ht⟩ := printGo_may _ h2
      rw [ht]; simp
theorem print_lines {f : Mf} (h : May f) : print f = Lib.join (head f.ps f.rs f.slots :: (f.code.map line ++ [[]])) [10] := by
  obtain ⟨t, ht⟩ := printGo_may _ h.2
  unfold print
  rw [if_neg h.1, ht]
  dsimp only
  rw [(printGo_some _ _ ht).2, Lib.join_cons, joinTail_ne _ (by simp)]; rfl
theorem line_no10 {x : Mi} (h : told x = true) : 10 ∉ line x := fun hm => by
  have H := (told_iff x).1 h
  unfold line at hm
  rw [if_pos h] at hm
  rcases join_mem hm with hm | ⟨w, hw, hb⟩
  · revert hm; decide
  · have := w1_mem (w1_lineW H w hw) 10 hb
    revert this; decide
theorem itoa_no10 (z : Int) : 10 ∉ Lib.itoa z := fun hm => by
  have := w1_mem (w1_itoa z) 10 hm
  revert this; decide
theorem head_no10 {ps rs : List Int} {slots : Int} (h : head ps rs slots ≠ []) : 10 ∉ head ps rs slots := by
  obtain ⟨⟨h1, h2, h3⟩, e⟩ := head_may h
  rw [e]
  unfold Ty.text
  simp only [List.mem_append, not_or]
  exact ⟨by decide, ⟨list_no (right_val h1).1 _ (by decide) (fun v hv => (name_chars hv).2.2), by decide, list_no (right_val h2).1 _ (by decide) (fun v hv => (name_chars hv).2.2)⟩, by decide, itoa_no10 _⟩
theorem split_print {f : Mf} (h : May f) : Lib.split (print f) [10] = head f.ps f.rs f.slots :: (f.code.map line ++ [[]]) := by
  rw [print_lines h]
  refine split_join _ (by simp) fun w hw => ?_
  rcases List.mem_cons.1 hw with rfl | hw
  · exact head_no10 h.1
  · rcases List.mem_append.1 hw with hw | hw
    · obtain ⟨x, hx, rfl⟩ := List.mem_map.1 hw; exact line_no10 (h.2 x hx)
    · rw [List.mem_singleton.1 hw]; simp
theorem run_back : ∀ (l : List Mi) (i : Nat) (f : Mf), (∀ x ∈ l, told x = true ∧ x.n < 18446744073709551616) → runP i f (l.map line ++ [[]]) = (⟨f.ps, f.rs, f.slots, f.code ++ l⟩, 0, 0)
  | [], i, f, _ => by rw [List.map_nil, List.nil_append, runP, if_pos rfl, List.append_nil]
  | x :: l, i, f, h => by
    obtain ⟨u, r, hr⟩ : ∃ u r, l.map line ++ [[]] = u :: r := List.exists_cons_of_ne_nil (by simp)
    obtain ⟨h1, h2⟩ := h x (by simp)
    rw [List.map_cons, List.cons_append, hr, runP, insP_back h1 h2, if_pos rfl, ← hr, run_back l (i + 1) _ (fun y hy => h y (by simp [hy]))]
    simp [addI]
theorem parse_back {f : Mf} (h : May f) (hn : ∀ x ∈ f.code, x.n < 18446744073709551616) : parseO (print f) = (f, 0, 0) := by
  unfold parseO
  rw [split_print h, List.headD_cons, List.tail_cons, headerP_back h.1, if_pos ⟨rfl, by simp⟩, run_back _ _ _ (fun x hx => ⟨h.2 x hx, hn x hx⟩)]
  rfl
theorem insF_n (k : Int) (r : Rs) : (insF k r).1.n < 18446744073709551616 := by
  unfold insF optN
  dsimp only
  split
  · exact puint_in _
  · simp
theorem insP_n (s : W) : (insP s).1.n < 18446744073709551616 := by
  unfold insP
  split
  · simp [mi0]
  · exact insF_n _ _
end Go.Proofs.YtadnfekogmjieaaGreatDoor.Mc
set_option linter.unusedVariables false
set_option linter.unusedSimpArgs false
namespace Go.Proofs.YtadnfekogmjieaaGreatDoor.Mc
/-! Cutting at a byte. -/
/-! Numbers. -/
/-! An instruction. -/
/-! The first line. -/
/-! The function. -/
end Go.Proofs.YtadnfekogmjieaaGreatDoor.Mc
set_option linter.unusedVariables false
set_option linter.unusedSimpArgs false
namespace Go.Proofs.YtadnfekogmjieaaGreatDoor.Mc
/-! Opcodes: the number of operands and results, the bytes of an access. -/
def sigC (op : Int) : Option (Nat × Nat) :=
  if op = 1 ∨ op = 64525 ∨ op = 64521 then some (0, 0)
  else if op = 65 ∨ op = 63 ∨ op = 64528 then some (0, 1)
  else if op = 66 then some (0, 1)
  else if op = 210 then some (0, 1)
  else if op = 64 then some (1, 1)
  else if op = 64523 ∨ op = 64522 ∨ op = 64520 ∨ op = 64526 ∨ op = 64524 then some (3, 0)
  else if op = 167 then some (1, 1)
  else if op = 172 ∨ op = 173 then some (1, 1)
  else none
def i32d : W := [105, 51, 50, 46]
def i64d : W := [105, 54, 52, 46]
def lLoad : W := [108, 111, 97, 100]
def lStore : W := [115, 116, 111, 114, 101]
def lEqz : W := [101, 113, 122]
def lClz : W := [99, 108, 122]
def lCtz : W := [99, 116, 122]
def lPop : W := [112, 111, 112, 99, 110, 116]
def lExt : W := [101, 120, 116, 101, 110, 100]
def begN (s : W) : Bool := Lib.hasPrefix s i32d || Lib.hasPrefix s i64d
def numC (op : Int) (tail : W) : Nat × Nat :=
  if Lib.hasPrefix tail lLoad then (1, 1) else if Lib.hasPrefix tail lStore then (2, 0) else if tail = lEqz then (1, 1)
  else if 70 ≤ op ∧ op ≤ 90 then (2, 1)
  else if tail = lClz ∨ tail = lCtz ∨ tail = lPop ∨ Lib.hasPrefix tail lExt = true then (1, 1) else (2, 1)
def sigO (op : Int) : (Nat × Nat) × Bool :=
  match sigC op with
  | some p => (p, true)
  | none => if begN (Opc.name op) then (numC op ((Opc.name op).drop 4), true) else ((0, 0), false)
def accO (op : Int) : Bool := (decide (40 ≤ op) && decide (op ≤ 62)) && !(Opc.name op == [])
def widN (s : W) : Int :=
  if Lib.contains (s.drop 4) [56] then 1 else if Lib.contains (s.drop 4) [49, 54] then 2 else if Lib.contains (s.drop 4) [51, 50] then 4
  else if s.take 3 = [105, 51, 50] then 4 else 8
def widO (op : Int) : Int := if accO op then widN (Opc.name op) else 0
def numO2 (op : Int) : Nat := if !(sigO op).2 || !((sigO op).1.2 == 1) || decide (0 < widO op) || !begN (Opc.name op) then 0 else (sigO op).1.1
def hasAt (s part : W) (i : Nat) : Bool := decide (i + part.length ≤ s.length) && ((s.drop i).take part.length == part)
def withinR (s part : W) : Bool := (List.range (s.length + 1)).any (hasAt s part)
def ofR (op : Int) : Int := match Opc.refRows.find? (fun r => r.1 == op) with | some r => r.2.2 | none => 0
def sigR (op : Int) : (Nat × Nat) × Bool :=
  match sigC op with
  | some p => (p, true)
  | none =>
    if ofR op = 17 ∧ withinR (Opc.name op) lLoad = true then ((1, 1), true)
    else if ofR op = 17 then ((2, 0), true)
    else if op = 69 ∨ op = 80 then ((1, 1), true)
    else if (69 < op ∧ op ≤ 79) ∨ (80 < op ∧ op ≤ 90) then ((2, 1), true)
    else if (103 ≤ op ∧ op ≤ 105) ∨ (121 ≤ op ∧ op ≤ 123) ∨ withinR (Opc.name op) lExt = true then ((1, 1), true)
    else if (106 ≤ op ∧ op ≤ 120) ∨ (124 ≤ op ∧ op ≤ 138) then ((2, 1), true)
    else ((0, 0), false)
def d8 : W := [100, 56]
def e8 : W := [101, 56]
def d16 : W := [100, 49, 54]
def e16 : W := [101, 49, 54]
def d32 : W := [100, 51, 50]
def e32 : W := [101, 51, 50]
def widR (op : Int) : Int :=
  if ofR op ≠ 17 then 0
  else if withinR (Opc.name op) d8 = true ∨ withinR (Opc.name op) e8 = true then 1
  else if withinR (Opc.name op) d16 = true ∨ withinR (Opc.name op) e16 = true then 2
  else if withinR (Opc.name op) d32 = true ∨ withinR (Opc.name op) e32 = true then 4
  else if ((Opc.name op).take 3).drop 1 = [51, 50] then 4
  else 8
def numR2 (op : Int) (n : Nat) : Bool := ((((((sigR op).2 && decide (widR op = 0)) && decide (4 < (Opc.name op).length)) && ((Opc.name op).take 4 == i32d || (Opc.name op).take 4 == i64d)) && decide ((sigR op).1.1 = n)) && decide ((sigR op).1.2 = 1))
set_option maxRecDepth 100000 in
theorem ops_facts : ∀ x ∈ Opc.all, sigO x.1 = sigR x.1 ∧ widO x.1 = widR x.1 ∧ ((numO2 x.1 == 1) = numR2 x.1 1) ∧ ((numO2 x.1 == 2) = numR2 x.1 2) ∧
    ((decide (0 < widO x.1) && decide ((sigO x.1).1.1 = 1)) = (decide (0 < widR x.1) && decide (x.1 < 54))) ∧ ((decide (0 < widO x.1) && decide ((sigO x.1).1.1 = 2)) = (decide (0 < widR x.1) && decide (54 ≤ x.1))) ∧ 0 ≤ x.1 ∧ x.1 ≤ 64529 := by decide +kernel
theorem find_no {op : Int} : ∀ {l : List Opc.R}, Opc.look op (l.map fun r => (r.1, r.2.1)) = none → l.find? (fun r => r.1 == op) = none
  | [], _ => rfl
  | r :: l, h => by
    rw [List.map_cons, Opc.look] at h
    split at h
    · cases h
    · rename_i h1
      rw [List.find?_cons_of_neg (by simpa using h1)]
      exact find_no h
theorem unknown_facts {op : Int} (h : Opc.known op = false) : sigC op = none ∧ sigO op = ((0, 0), false) ∧ sigR op = ((0, 0), false) ∧ widO op = 0 ∧ widR op = 0 := by
  have hl : Opc.look op Opc.all = none := by
    unfold Opc.known at h
    rcases hl : Opc.look op Opc.all with _ | s
    · rfl
    · rw [hl] at h; cases h
  have hn : Opc.name op = [] := by unfold Opc.name; rw [hl]; rfl
  have ho : ofR op = 0 := by
    unfold ofR
    rw [find_no (by rw [← Opc.all_ref]; exact hl)]
  have hno : ∀ x ∈ Opc.all, op ≠ x.1 := fun x hx e => by
    have := (op_rows x hx).1
    rw [← e, hl] at this; cases this
  have hk : ∀ z : Int, Opc.known z = true → op ≠ z := fun z hz e => by rw [e, hz] at h; cases h
  have c : sigC op = none := by
    unfold sigC
    rw [if_neg, if_neg, if_neg, if_neg, if_neg, if_neg, if_neg, if_neg]
    · rintro (e | e)
      · exact hk 172 (by decide +kernel) e
      · exact hk 173 (by decide +kernel) e
    · exact hk 167 (by decide +kernel)
    · rintro (e | e | e | e | e)
      · exact hk 64523 (by decide +kernel) e
      · exact hk 64522 (by decide +kernel) e
      · exact hk 64520 (by decide +kernel) e
      · exact hk 64526 (by decide +kernel) e
      · exact hk 64524 (by decide +kernel) e
    · exact hk 64 (by decide +kernel)
    · exact hk 210 (by decide +kernel)
    · exact hk 66 (by decide +kernel)
    · rintro (e | e | e)
      · exact hk 65 (by decide +kernel) e
      · exact hk 63 (by decide +kernel) e
      · exact hk 64528 (by decide +kernel) e
    · rintro (e | e | e)
      · exact hk 1 (by decide +kernel) e
      · exact hk 64525 (by decide +kernel) e
      · exact hk 64521 (by decide +kernel) e
  have hR : ∀ z : Nat, 69 ≤ z ∧ z ≤ 138 ∧ ¬ (91 ≤ z ∧ z ≤ 102) → op ≠ (z : Int) := by
    intro z hz
    refine hk _ ?_
    have : ∀ y : Fin 139, 69 ≤ y.val ∧ ¬ (91 ≤ y.val ∧ y.val ≤ 102) → Opc.known ((y.val : Nat) : Int) = true := by decide +kernel
    exact this ⟨z, by omega⟩ ⟨hz.1, hz.2.2⟩
  have hr : ¬ (69 ≤ op ∧ op ≤ 138 ∧ ¬ (91 ≤ op ∧ op ≤ 102)) := fun hz => hR op.toNat (by omega) (by omega)
  refine ⟨c, ?_, ?_, ?_, ?_⟩
  · unfold sigO; rw [c, hn]; rfl
  · unfold sigR
    rw [c, hn, ho]
    dsimp only
    rw [if_neg (by simp), if_neg (by simp), if_neg (by omega), if_neg (by omega), if_neg, if_neg (by omega)]
    rintro (e | e | e)
    · omega
    · omega
    · revert e; decide
  · unfold widO accO; rw [hn]; simp
  · unfold widR; rw [ho, if_pos (by decide)]
theorem known_mem {op : Int} (h : Opc.known op = true) : ∃ s, (op, s) ∈ Opc.all := by
  unfold Opc.known at h
  rcases hl : Opc.look op Opc.all with _ | s
  · rw [hl] at h; cases h
  · exact ⟨s, look_mem hl⟩
theorem num_same (op : Int) : (numO2 op == 1) = numR2 op 1 ∧ (numO2 op == 2) = numR2 op 2 := by
  rcases h : Opc.known op with _ | _
  · obtain ⟨-, a, b, c, d⟩ := unknown_facts h
    unfold numO2 numR2
    rw [a, b]
    simp
  · obtain ⟨s, hs⟩ := known_mem h; exact ⟨(ops_facts _ hs).2.2.1, (ops_facts _ hs).2.2.2.1⟩
theorem acc_same (op : Int) : (decide (0 < widO op) && decide ((sigO op).1.1 = 1)) = (decide (0 < widR op) && decide (op < 54)) ∧ (decide (0 < widO op) && decide ((sigO op).1.1 = 2)) = (decide (0 < widR op) && decide (54 ≤ op)) := by
  rcases h : Opc.known op with _ | _
  · obtain ⟨-, a, b, c, d⟩ := unknown_facts h
    rw [c, d]
    simp
  · obtain ⟨s, hs⟩ := known_mem h; exact ⟨(ops_facts _ hs).2.2.2.2.1, (ops_facts _ hs).2.2.2.2.2.1⟩
end Go.Proofs.YtadnfekogmjieaaGreatDoor.Mc
set_option linter.unusedVariables false
set_option linter.unusedSimpArgs false
namespace Go.Proofs.YtadnfekogmjieaaGreatDoor.Mc
structure Im where
  kind : Int
  func : Int
  elem : Int
  gtyp : Int
  gmut : Bool
structure Md where
  types : List (List Int × List Int)
  imps : List Im
  funcs : List Int
  tables : List Int
  mems : Nat
  globals : List (Int × Bool)
  elems : Nat
  datas : Nat
structure Th where
  types : List (List Int × List Int)
  funcs : List Int
  tables : List Int
  mems : Nat
  globals : List (Int × Bool)
  elems : Nat
  datas : Nat
def impF (l : List Im) : List Int := (l.filter fun x => x.kind == 0).map (·.func)
def impT (l : List Im) : List Int := (l.filter fun x => x.kind == 1).map (·.elem)
def impM (l : List Im) : Nat := (l.filter fun x => x.kind == 2).length
def impG (l : List Im) : List (Int × Bool) := (l.filter fun x => x.kind == 3).map fun x => (x.gtyp, x.gmut)
def thOf (m : Md) : Th := ⟨m.types, impF m.imps ++ m.funcs, impT m.imps ++ m.tables, m.mems + impM m.imps, impG m.imps ++ m.globals, m.elems, m.datas⟩
def ent {α : Type} (l : List α) (i : Int) : Option α := if 0 ≤ i then l[i.toNat]? else none
def inL (i : Int) (n : Nat) : Bool := within i ((n : Int) - 1)
theorem ent_some {α : Type} {l : List α} {i : Int} {a : α} (h : ent l i = some a) : inL i l.length = true ∧ ∃ k : Nat, i = k ∧ ∃ hk : k < l.length, l[k] = a := by
  unfold ent at h
  split at h
  · rename_i h0
    obtain ⟨h1, h2⟩ := List.getElem?_eq_some_iff.1 h
    refine ⟨?_, i.toNat, by omega, h1, h2⟩
    unfold inL within; simp; omega
  · cases h
theorem ent_none {α : Type} {l : List α} {i : Int} (h : ent l i = none) : inL i l.length = false := by
  unfold ent at h
  unfold inL within
  split at h
  · rename_i h0
    have := List.getElem?_eq_none_iff.1 h
    simp; omega
  · simp; omega
theorem inL_ent {α : Type} (l : List α) (i : Int) : inL i l.length = (ent l i).isSome := by
  rcases h : ent l i with _ | a
  · rw [ent_none h]; rfl
  · rw [(ent_some h).1]; rfl
structure Wt where
  d : Nat
  s : Nat
  t : Nat
  more : Bool
  ok : Bool
def wt0 : Wt := ⟨0, 0, 0, false, false⟩
def accW (t : Th) (x : Mi) (n : Nat) : Bool := ((decide (0 < widO x.op) && decide ((sigO x.op).1.1 = n)) && inL x.b t.mems) && decide (x.n ≤ 4294967295)
def typLen (t : Th) (i : Int) : (Nat × Nat) × Bool := match ent t.types i with | some f => ((f.1.length, f.2.length), true) | none => ((0, 0), false)
def bulkW (t : Th) (x : Mi) : Wt :=
  if x.op = 64523 then ⟨0, 3, 0, false, inL x.b t.mems && x.a == 0⟩
  else if x.op = 64522 then ⟨0, 3, 0, false, inL x.b t.mems && inL x.a t.mems⟩
  else if x.op = 64520 then ⟨0, 3, 0, false, inL x.b t.mems && inL x.a t.datas⟩
  else if x.op = 64521 then ⟨0, 0, 0, false, inL x.a t.datas && x.b == 0⟩
  else wt0
def oneT (t : Th) (x : Mi) : Bool := inL x.a t.tables.length && x.b == 0
def tabW (t : Th) (x : Mi) : Wt :=
  if x.op = 37 then ⟨1, 1, 0, false, oneT t x⟩
  else if x.op = 38 then ⟨0, 2, 0, false, oneT t x⟩
  else if x.op = 64528 then ⟨1, 0, 0, false, oneT t x⟩
  else if x.op = 64527 then ⟨1, 2, 0, false, oneT t x⟩
  else if x.op = 64529 then ⟨0, 3, 0, false, oneT t x⟩
  else if x.op = 64526 then ⟨0, 3, 0, false, inL x.a t.tables.length && inL x.b t.tables.length⟩
  else if x.op = 64524 then ⟨0, 3, 0, false, inL x.a t.elems && inL x.b t.tables.length⟩
  else if x.op = 64525 then ⟨0, 0, 0, false, inL x.a t.elems && x.b == 0⟩
  else wt0
def callW (t : Th) (x : Mi) : Wt := match ent t.funcs x.a with | none => wt0 | some i => ⟨(typLen t i).1.2, (typLen t i).1.1, 0, false, (typLen t i).2⟩
def calliW (t : Th) (x : Mi) : Wt := ⟨(typLen t x.a).1.2, (typLen t x.a).1.1 + 1, 0, false, ((typLen t x.a).2 && inL x.b t.tables.length) && ent t.tables x.b == some 3⟩
def setOk (t : Th) (x : Mi) : Bool := match ent t.globals x.a with | some g => g.2 | none => false
def want (t : Th) (x : Mi) (nr : Nat) : Wt :=
  if x.kind = 0 then ⟨1, 0, 0, false, true⟩
  else if x.kind = 1 then ⟨1, 1, 0, false, true⟩
  else if x.kind = 2 then ⟨1, 1, 0, false, numO2 x.op == 1⟩
  else if x.kind = 3 then ⟨1, 2, 0, false, numO2 x.op == 2⟩
  else if x.kind = 4 then ⟨1, 3, 0, false, true⟩
  else if x.kind = 5 then ⟨1, 1, 0, false, accW t x 1⟩
  else if x.kind = 6 then ⟨0, 2, 0, false, accW t x 2⟩
  else if x.kind = 7 then ⟨0, 1, 0, false, ((decide (1 ≤ x.a) && decide (x.a ≤ 8)) && inL x.b t.mems) && decide (x.n ≤ 4294967295)⟩
  else if x.kind = 8 then ⟨1, 0, 0, false, inL x.b t.mems⟩
  else if x.kind = 9 then ⟨1, 1, 0, false, inL x.b t.mems⟩
  else if x.kind = 10 then ⟨1, 0, 0, false, inL x.a t.globals.length⟩
  else if x.kind = 11 then ⟨0, 1, 0, false, setOk t x⟩
  else if x.kind = 12 then callW t x
  else if x.kind = 13 then calliW t x
  else if x.kind = 14 then ⟨1, 0, 0, false, inL x.a t.funcs.length⟩
  else if x.kind = 15 then ⟨1, 1, 0, false, true⟩
  else if x.kind = 16 then bulkW t x
  else if x.kind = 17 then tabW t x
  else if x.kind = 18 then ⟨0, 0, 0, false, decide (1 ≤ x.a) && decide (x.a ≤ 4294967295)⟩
  else if x.kind = 19 then ⟨0, 0, 1, false, true⟩
  else if x.kind = 20 then ⟨0, 1, 1, false, true⟩
  else if x.kind = 21 then ⟨0, 1, 1, true, true⟩
  else if x.kind = 22 then ⟨0, nr, 0, false, true⟩
  else if x.kind = 23 then ⟨0, 0, 0, false, decide (1 ≤ x.trap) && decide (x.trap ≤ 12)⟩
  else wt0
def plOk (slots regs : Int) (p : Pl) : Bool := if p.slot then within p.n (slots - 1) else within p.n (regs - 1)
def onceGo : List Pl → List Pl → Bool
  | _, [] => true
  | seen, p :: l => !seen.contains p && onceGo (seen ++ [p]) l
def once (l : List Pl) : Bool := onceGo [] l
def fits (w : Wt) (x : Mi) : Bool := (((w.ok && decide (x.d.length = w.d)) && decide (x.s.length = w.s)) && decide (w.t ≤ x.tos.length)) && (decide (x.tos.length ≤ w.t) || w.more)
def toOk (n : Nat) (z : Int) : Bool := within z ((n : Int) - 1)
def rightI (t : Th) (x : Mi) (f : Mf) (regs : Int) : Bool :=
  (spare x && fits (want t x f.rs.length) x) && (((x.d.all (plOk f.slots regs) && x.s.all (plOk f.slots regs)) && once x.d) && x.tos.all (toOk f.code.length))
def goesK (k : Int) : Bool := !(k == 19 || k == 21 || k == 22 || k == 23)
def findBad (t : Th) (f : Mf) (regs : Int) : Nat → List Mi → Option Nat
  | _, [] => none
  | i, x :: l => if rightI t x f regs then findBad t f regs (i + 1) l else some i
def mfOk (f : Mf) : Bool := ((Ty.right f.ps && Ty.right f.rs) && (decide ((f.ps.length : Int) ≤ f.slots) && decide (f.slots ≤ 65536))) && !f.code.isEmpty
def check (t : Th) (f : Mf) (regs : Int) : Int × Int :=
  if within regs 16 = false then (0, 31)
  else if mfOk f = false then (0, 30)
  else match findBad t f regs 0 f.code with
    | some i => ((i : Int), 30)
    | none => if goesK (f.code.getLastD mi0).kind then (((f.code.length - 1 : Nat) : Int), 30) else (0, 0)
/-! The reference. -/
def hOp (k : Int) : Bool := ((((k == 2 || k == 3) || k == 5) || k == 6) || k == 16) || k == 17
def hA (k : Int) : Bool := k == 7 || (k == 10 || (k == 11 || (k == 12 || (k == 13 || (k == 14 || (k == 16 || (k == 17 || k == 18)))))))
def hB (k : Int) : Bool := k == 5 || (k == 6 || (k == 7 || (k == 8 || (k == 9 || (k == 13 || (k == 16 || k == 17))))))
def hN (k : Int) : Bool := ((k == 0 || k == 5) || k == 6) || k == 7
def unusedR (x : Mi) : Bool := (((((hOp x.kind || x.op == 0) && (hA x.kind || x.a == 0)) && (hB x.kind || x.b == 0)) && (hN x.kind || x.n == 0)) && (x.kind == 23 || x.trap == 0)) && (((x.kind == 19 || x.kind == 20) || x.kind == 21) || x.tos.length == 0)
structure Nd where
  d : Nat
  s : Nat
  ok : Bool
def nd0 : Nd := ⟨0, 0, false⟩
def ndOf (w : Wt) : Nd := ⟨w.d, w.s, w.ok⟩
def smallN (x : Mi) : Bool := decide (x.n < 4294967296)
def need (t : Th) (x : Mi) (nr : Nat) : Nd :=
  if x.kind = 0 then ⟨1, 0, true⟩
  else if x.kind = 1 then ⟨1, 1, true⟩
  else if x.kind = 15 then ⟨1, 1, true⟩
  else if x.kind = 2 then ⟨1, 1, numR2 x.op 1⟩
  else if x.kind = 3 then ⟨1, 2, numR2 x.op 2⟩
  else if x.kind = 4 then ⟨1, 3, true⟩
  else if x.kind = 5 then ⟨1, 1, ((smallN x && inL x.b t.mems) && decide (0 < widR x.op)) && decide (x.op < 54)⟩
  else if x.kind = 6 then ⟨0, 2, ((smallN x && inL x.b t.mems) && decide (0 < widR x.op)) && decide (54 ≤ x.op)⟩
  else if x.kind = 7 then ⟨0, 1, ((smallN x && inL x.b t.mems) && decide (1 ≤ x.a)) && decide (x.a ≤ 8)⟩
  else if x.kind = 8 then ⟨1, 0, inL x.b t.mems⟩
  else if x.kind = 9 then ⟨1, 1, inL x.b t.mems⟩
  else if x.kind = 16 then ndOf (bulkW t x)
  else if x.kind = 17 then ndOf (tabW t x)
  else if x.kind = 10 then ⟨1, 0, inL x.a t.globals.length⟩
  else if x.kind = 11 then ⟨0, 1, setOk t x⟩
  else if x.kind = 12 then ndOf (callW t x)
  else if x.kind = 13 then ndOf (calliW t x)
  else if x.kind = 14 then ⟨1, 0, inL x.a t.funcs.length⟩
  else if x.kind = 18 then ⟨0, 0, decide (1 ≤ x.a) && decide (x.a ≤ 4294967295)⟩
  else if x.kind = 19 then ⟨0, 0, x.tos.length == 1⟩
  else if x.kind = 20 then ⟨0, 1, x.tos.length == 1⟩
  else if x.kind = 21 then ⟨0, 1, decide (1 ≤ x.tos.length)⟩
  else if x.kind = 22 then ⟨0, nr, true⟩
  else if x.kind = 23 then ⟨0, 0, decide (1 ≤ x.trap) && decide (x.trap ≤ 12)⟩
  else nd0
def coreR (t : Th) (x : Mi) (nr : Nat) : Bool := (((need t x nr).ok && unusedR x) && decide (x.d.length = (need t x nr).d)) && decide (x.s.length = (need t x nr).s)
theorem bulk_t (t : Th) (x : Mi) : (bulkW t x).t = 0 ∧ (bulkW t x).more = false := by
  unfold bulkW; split; · exact ⟨rfl, rfl⟩
  split; · exact ⟨rfl, rfl⟩
  split; · exact ⟨rfl, rfl⟩
  split <;> exact ⟨rfl, rfl⟩
theorem tab_t (t : Th) (x : Mi) : (tabW t x).t = 0 ∧ (tabW t x).more = false := by
  unfold tabW; split; · exact ⟨rfl, rfl⟩
  split; · exact ⟨rfl, rfl⟩
  split; · exact ⟨rfl, rfl⟩
  split; · exact ⟨rfl, rfl⟩
  split; · exact ⟨rfl, rfl⟩
  split; · exact ⟨rfl, rfl⟩
  split; · exact ⟨rfl, rfl⟩
  split <;> exact ⟨rfl, rfl⟩
theorem call_t (t : Th) (x : Mi) : (callW t x).t = 0 ∧ (callW t x).more = false := by
  unfold callW; split <;> exact ⟨rfl, rfl⟩
theorem core_same (t : Th) (x : Mi) (nr : Nat) : (spare x && fits (want t x nr) x) = coreR t x nr := by
  by_cases hk : ∃ k : Nat, x.kind = k ∧ k ≤ 23
  · obtain ⟨k, hk, hk2⟩ := hk
    have e1 := (num_same x.op).1
    have e2 := (num_same x.op).2
    have e3 := (acc_same x.op).1
    have e4 := (acc_same x.op).2
    have e5 := bulk_t t x
    have e6 := tab_t t x
    have e7 := call_t t x
    have e8 : (decide (x.n ≤ 4294967295)) = smallN x := by unfold smallN; congr 1; exact propext ⟨fun h => by omega, fun h => by omega⟩
    have e9 : (x.tos.length == 0) = decide (x.tos.length ≤ 0) := by rw [Bool.eq_iff_iff]; simp
    have e10 : accW t x 1 = (((smallN x && inL x.b t.mems) && decide (0 < widR x.op)) && decide (x.op < 54)) := by unfold accW; rw [e3, e8]; grind
    have e11 : accW t x 2 = (((smallN x && inL x.b t.mems) && decide (0 < widR x.op)) && decide (54 ≤ x.op)) := by unfold accW; rw [e4, e8]; grind
    have e12 : (calliW t x).t = 0 ∧ (calliW t x).more = false := ⟨rfl, rfl⟩
    unfold coreR spare spareR fits within unusedR want need
    rw [hk]
    match k, hk2 with
    | 0, _ => simp [row, rws, hOp, hA, hB, hN, ndOf, e1, e2, e9]; try grind
    | 1, _ => simp [row, rws, hOp, hA, hB, hN, ndOf, e1, e2, e9]; try grind
    | 2, _ => simp [row, rws, hOp, hA, hB, hN, ndOf, e1, e2, e9]; try grind
    | 3, _ => simp [row, rws, hOp, hA, hB, hN, ndOf, e1, e2, e9]; try grind
    | 4, _ => simp [row, rws, hOp, hA, hB, hN, ndOf, e1, e2, e9]; try grind
    | 5, _ => simp [row, rws, hOp, hA, hB, hN, ndOf, e1, e2, e9]; try grind
    | 6, _ => simp [row, rws, hOp, hA, hB, hN, ndOf, e1, e2, e9]; try grind
    | 7, _ => simp [row, rws, hOp, hA, hB, hN, ndOf, e1, e2, e9]; try grind
    | 8, _ => simp [row, rws, hOp, hA, hB, hN, ndOf, e1, e2, e9]; try grind
    | 9, _ => simp [row, rws, hOp, hA, hB, hN, ndOf, e1, e2, e9]; try grind
    | 10, _ => simp [row, rws, hOp, hA, hB, hN, ndOf, e1, e2, e9]; try grind
    | 11, _ => simp [row, rws, hOp, hA, hB, hN, ndOf, e1, e2, e9]; try grind
    | 12, _ => simp [row, rws, hOp, hA, hB, hN, ndOf, e1, e2, e9]; try grind
    | 13, _ => simp [row, rws, hOp, hA, hB, hN, ndOf, e1, e2, e9]; try grind
    | 14, _ => simp [row, rws, hOp, hA, hB, hN, ndOf, e1, e2, e9]; try grind
    | 15, _ => simp [row, rws, hOp, hA, hB, hN, ndOf, e1, e2, e9]; try grind
    | 16, _ => simp [row, rws, hOp, hA, hB, hN, ndOf, e1, e2, e9]; try grind
    | 17, _ => simp [row, rws, hOp, hA, hB, hN, ndOf, e1, e2, e9]; try grind
    | 18, _ => simp [row, rws, hOp, hA, hB, hN, ndOf, e1, e2, e9]; try grind
    | 19, _ => simp [row, rws, hOp, hA, hB, hN, ndOf, e1, e2, e9]; try grind
    | 20, _ => simp [row, rws, hOp, hA, hB, hN, ndOf, e1, e2, e9]; try grind
    | 21, _ => simp [row, rws, hOp, hA, hB, hN, ndOf, e1, e2, e9]; try grind
    | 22, _ => simp [row, rws, hOp, hA, hB, hN, ndOf, e1, e2, e9]; try grind
    | 23, _ => simp [row, rws, hOp, hA, hB, hN, ndOf, e1, e2, e9]; try grind
    | k + 24, h => omega
  · unfold spare within coreR need
    have hne : ∀ z : Nat, z ≤ 23 → x.kind ≠ (z : Int) := fun z hz e => hk ⟨z, e, hz⟩
    rw [if_neg (show x.kind ≠ (0 : Int) from hne 0 (by omega)), if_neg (show x.kind ≠ (1 : Int) from hne 1 (by omega)), if_neg (show x.kind ≠ (15 : Int) from hne 15 (by omega)), if_neg (show x.kind ≠ (2 : Int) from hne 2 (by omega)), if_neg (show x.kind ≠ (3 : Int) from hne 3 (by omega)), if_neg (show x.kind ≠ (4 : Int) from hne 4 (by omega)), if_neg (show x.kind ≠ (5 : Int) from hne 5 (by omega)), if_neg (show x.kind ≠ (6 : Int) from hne 6 (by omega)), if_neg (show x.kind ≠ (7 : Int) from hne 7 (by omega)), if_neg (show x.kind ≠ (8 : Int) from hne 8 (by omega)), if_neg (show x.kind ≠ (9 : Int) from hne 9 (by omega)), if_neg (show x.kind ≠ (16 : Int) from hne 16 (by omega)), if_neg (show x.kind ≠ (17 : Int) from hne 17 (by omega)), if_neg (show x.kind ≠ (10 : Int) from hne 10 (by omega)), if_neg (show x.kind ≠ (11 : Int) from hne 11 (by omega)), if_neg (show x.kind ≠ (12 : Int) from hne 12 (by omega)), if_neg (show x.kind ≠ (13 : Int) from hne 13 (by omega)), if_neg (show x.kind ≠ (14 : Int) from hne 14 (by omega)), if_neg (show x.kind ≠ (18 : Int) from hne 18 (by omega)), if_neg (show x.kind ≠ (19 : Int) from hne 19 (by omega)), if_neg (show x.kind ≠ (20 : Int) from hne 20 (by omega)), if_neg (show x.kind ≠ (21 : Int) from hne 21 (by omega)), if_neg (show x.kind ≠ (22 : Int) from hne 22 (by omega)), if_neg (show x.kind ≠ (23 : Int) from hne 23 (by omega))]
    rw [show (decide (0 ≤ x.kind) && decide (x.kind ≤ 23)) = false by
      rw [Bool.and_eq_false_iff]
      by_cases h0 : 0 ≤ x.kind
      · right; rw [decide_eq_false_iff_not]; intro h1; exact hne x.kind.toNat (by omega) (by omega)
      · left; simpa using h0]
    rfl
def rrightI (t : Th) (x : Mi) (f : Mf) (regs : Int) : Bool := coreR t x f.rs.length && (((x.d.all (plOk f.slots regs) && once x.d) && x.s.all (plOk f.slots regs)) && x.tos.all (toOk f.code.length))
theorem right_same (t : Th) (x : Mi) (f : Mf) (regs : Int) : rrightI t x f regs = rightI t x f regs := by
  unfold rrightI rightI
  rw [core_same]
  cases coreR t x f.rs.length <;> cases x.d.all (plOk f.slots regs) <;> cases once x.d <;> cases x.s.all (plOk f.slots regs) <;> rfl
end Go.Proofs.YtadnfekogmjieaaGreatDoor.Mc
set_option linter.unusedVariables false
set_option linter.unusedSimpArgs false
namespace Go.Proofs.YtadnfekogmjieaaGreatDoor.Mc
/-! Line. -/
def sp (w : W) : W := 32 :: w
/-! Print. -/
end Go.Proofs.YtadnfekogmjieaaGreatDoor.Mc
set_option linter.unusedVariables false
set_option linter.unusedSimpArgs false
namespace Go.Proofs.YtadnfekogmjieaaGreatDoor.Mc
theorem findBad_at {t : Th} {f : Mf} {r : Int} {x : Mi} {b : List Mi} (hx : rightI t x f r = false) : ∀ {a : List Mi} {i : Nat}, (∀ y ∈ a, rightI t y f r = true) → findBad t f r i (a ++ x :: b) = some (i + a.length)
  | [], i, _ => by simp [findBad, hx]
  | y :: a, i, h => by
    rw [List.cons_append, findBad, if_pos (h y (by simp)), findBad_at hx (fun z hz => h z (by simp [hz])), List.length_cons]
    congr 1; omega
structure Good (t : Th) (f : Mf) (r : Int) : Prop where
  regs : within r 16 = true
  ok : mfOk f = true
  all : ∀ x ∈ f.code, rightI t x f r = true
  last : goesK (f.code.getLastD mi0).kind = false
theorem check_over (t : Th) (f : Mf) {r : Int} (h : within r 16 = false) : check t f r = (0, 31) := by unfold check; rw [if_pos h]
/-! More registers. -/
/-! Cut off. -/
def cutF (f : Mf) (k : Nat) : Mf := ⟨f.ps, f.rs, f.slots, f.code.take k⟩
theorem mfOk_iff {f : Mf} : mfOk f = true ↔ (((Ty.right f.ps = true ∧ Ty.right f.rs = true) ∧ ((f.ps.length : Int) ≤ f.slots ∧ f.slots ≤ 65536)) ∧ f.code ≠ []) := by
  unfold mfOk
  simp only [Bool.and_eq_true, decide_eq_true_eq, Bool.not_eq_true', List.isEmpty_eq_false_iff]
/-! Printable. -/
structure Th.Sm (t : Th) : Prop where
  ty : t.types.length ≤ 4000000
  fn : t.funcs.length ≤ 4000000
  tb : t.tables.length ≤ 4000000
  mm : t.mems ≤ 4000000
  gl : t.globals.length ≤ 4000000
  el : t.elems ≤ 4000000
  da : t.datas ≤ 4000000
/-! Turned. -/
def setI (f : Mf) (k : Nat) (x : Mi) : Mf := ⟨f.ps, f.rs, f.slots, f.code.take k ++ (x :: f.code.drop (k + 1))⟩
theorem turned {t : Th} {f : Mf} {r : Int} (h : Good t f r) {k : Nat} (hk : k < f.code.length) {x : Mi} (hx : rightI t x f r = false) : check t (setI f k x) r = ((k : Int), 30) := by
  have hlen : (setI f k x).code.length = f.code.length := by
    unfold setI
    simp only [List.length_append, List.length_take, List.length_cons, List.length_drop]
    omega
  have hsame : ∀ y, rightI t y (setI f k x) r = rightI t y f r := fun y => by
    unfold rightI
    rw [hlen]
    rfl
  unfold check
  rw [if_neg (by rw [h.regs]; simp), if_neg]
  · have hb : findBad t (setI f k x) r 0 (setI f k x).code = some (0 + (f.code.take k).length) := by
      refine findBad_at (by rw [hsame]; exact hx) fun y hy => ?_
      rw [hsame]
      exact h.all y (List.mem_of_mem_take hy)
    rw [hb]
    dsimp only
    rw [Nat.zero_add, List.length_take, Nat.min_eq_left (by omega)]
  · rw [Bool.not_eq_false, mfOk_iff]
    obtain ⟨h1, h2⟩ := mfOk_iff.1 h.ok
    refine ⟨h1, ?_⟩
    intro e
    have := congrArg List.length e
    rw [hlen] at this
    simp at this
    exact h2 this
section
variable {t : Th} {x y : Mi} {f : Mf} {r : Int}
end
end Go.Proofs.YtadnfekogmjieaaGreatDoor.Mc
set_option linter.unusedVariables false
set_option linter.unusedSimpArgs false
namespace Go.Proofs.YtadnfekogmjieaaGreatDoor.Mc
def sv0 : Mi := ⟨0, 0, 0, 0, 7, [⟨false, 0⟩], [], [], 0⟩
def sv1 : Mi := ⟨22, 0, 0, 0, 0, [], [⟨false, 0⟩], [], 0⟩
def sv2 : Mi := ⟨1, 0, 0, 0, 0, [⟨false, 0⟩], [⟨false, 0⟩], [], 0⟩
def sv : Mf := ⟨[], [1], 0, [sv0, sv1]⟩
def svL : Mf := ⟨[], [1], 0, [sv0, sv1, sv2]⟩
def svH : W := [102, 117, 110, 99, 32, 40, 41, 32, 45, 62, 32, 40, 105, 51, 50, 41, 32, 115, 108, 111, 116, 115, 32, 48]
def svA : W := [99, 111, 110, 115, 116, 32, 55, 32, 114, 48, 32, 61]
def svB : W := [114, 101, 116, 117, 114, 110, 32, 61, 32, 114, 48]
def svT : W := [102, 117, 110, 99, 32, 40, 41, 32, 45, 62, 32, 40, 105, 51, 50, 41, 32, 115, 108, 111, 116, 115, 32, 48, 10, 99, 111, 110, 115, 116, 32, 55, 32, 114, 48, 32, 61, 10, 114, 101, 116, 117, 114, 110, 32, 61, 32, 114, 48, 10]
def bdH : W := [102, 117, 110, 99, 32, 40, 41, 32, 45, 62, 32, 40, 41, 32, 115, 108, 111, 116, 115, 32, 48]
def bdA : W := [99, 111, 110, 115, 116, 32, 48, 55, 32, 114, 48, 32, 61]
def bdT : W := [102, 117, 110, 99, 32, 40, 41, 32, 45, 62, 32, 40, 41, 32, 115, 108, 111, 116, 115, 32, 48, 10, 99, 111, 110, 115, 116, 32, 48, 55, 32, 114, 48, 32, 61, 10]
theorem itoa0 : Lib.itoa 0 = [48] := by
  show (if (0 : Int) < 0 then _ else Lib.decDigits (0 : Int).toNat) = _
  rw [if_neg (by omega)]
  exact dec_small (by decide)
theorem sv_head : head [] [1] 0 = svH := by
  unfold head
  rw [if_pos (by decide), itoa0]
  decide
theorem bd_head : head [] [] 0 = bdH := by
  unfold head
  rw [if_pos (by decide), itoa0]
  decide
set_option maxRecDepth 100000 in
theorem sv_told : told sv0 = true ∧ told sv1 = true := by decide +kernel
theorem sv_line0 : line sv0 = svA := by
  unfold line
  rw [if_pos sv_told.1]
  have e : lineW sv0 = [[99, 111, 110, 115, 116], Lib.decDigits 7, 114 :: Lib.itoa 0, [61]] := rfl
  rw [e, itoa0, dec_small (by decide)]
  decide
theorem sv_line1 : line sv1 = svB := by
  unfold line
  rw [if_pos sv_told.2]
  have e : lineW sv1 = [[114, 101, 116, 117, 114, 110], [61], 114 :: Lib.itoa 0] := rfl
  rw [e, itoa0]
  decide
theorem sv_print : print sv = svT := by
  unfold print
  have e : printGo sv.code = some (svA ++ 10 :: (svB ++ [10])) := by
    show printGo [sv0, sv1] = _
    rw [printGo, printGo, printGo, sv_line0, sv_line1, if_neg (by decide), if_neg (by decide)]
    rfl
  rw [e]
  show (if head [] [1] 0 = [] then [] else head [] [1] 0 ++ 10 :: (svA ++ 10 :: (svB ++ [10]))) = _
  rw [sv_head]
  decide
theorem sv_may : May sv := by rw [← print_may, sv_print]; decide
theorem sv_parse : parseO svT = (sv, 0, 0) := by
  rw [← sv_print]
  refine parse_back sv_may ?_
  show ∀ x ∈ [sv0, sv1], x.n < 18446744073709551616
  decide
theorem bd_split : Lib.split bdT [10] = [bdH, bdA, []] := by
  have e : bdT = Lib.join [bdH, bdA, []] [10] := by decide
  rw [e]
  exact split_join _ (by simp) (by decide)
theorem bd_ins : (insP bdA).2 = false := by
  rw [Bool.eq_false_iff]
  intro h
  obtain ⟨h1, h2⟩ := insP_some h
  have ht := (told_iff _).1 h1
  have hs := split_line ht
  rw [h2] at hs
  have e : Lib.split bdA [32] = [[99, 111, 110, 115, 116], [48, 55], [114, 48], [61]] := by
    have e : bdA = Lib.join [[99, 111, 110, 115, 116], [48, 55], [114, 48], [61]] [32] := by decide
    rw [e]
    exact split_join _ (by simp) (by decide)
  rw [e] at hs
  obtain ⟨x, hx⟩ : ∃ x, (insP bdA).1 = x := ⟨_, rfl⟩
  rw [hx] at hs ht
  obtain ⟨k, hk, hk2⟩ := ht.kind
  unfold lineW at hs
  injection hs with h3 h4
  have h5 := kind_row ⟨k, by omega⟩
  rw [hk] at h3 h4
  dsimp only at h5
  rw [← h3] at h5
  have h6 : k = 0 := by
    have : kindO [99, 111, 110, 115, 116] = 0 := by decide +kernel
    omega
  subst h6
  have e2 : opsW (row ((0 : Nat) : Int)) x = [Lib.decDigits x.n] := rfl
  rw [e2, List.singleton_append] at h4
  injection h4 with h7 h8
  rcases Nat.lt_or_ge x.n 10 with hn | hn
  · rw [dec_small hn] at h7
    have := congrArg List.length h7; simp at this
  · have hb : x.n < 18446744073709551616 := by rw [← hx]; exact insP_n bdA
    have := puint_dec hb
    rw [← h7] at this
    have h9 : (puint [48, 55]).1 = 7 := by decide +kernel
    rw [this] at h9
    dsimp only at h9
    omega
theorem bd_parse : parseO bdT = (mf0, 2, 4) := by
  unfold parseO
  rw [bd_split, List.headD_cons, List.tail_cons]
  have h : headerP bdH = ((([], []), 0), true) := by
    rw [← bd_head]
    exact headerP_back (by rw [bd_head]; decide)
  rw [h, if_pos ⟨rfl, by decide⟩, runP, bd_ins]
  rfl
def th0 : Th := ⟨[], [], [], 0, [], 0, 0⟩
set_option maxRecDepth 100000 in
theorem sv_checks : check th0 sv 1 = (0, 0) ∧ check th0 sv 0 = (0, 30) ∧ check th0 svL 1 = (2, 30) := by decide +kernel
end Go.Proofs.YtadnfekogmjieaaGreatDoor.Mc
set_option linter.unusedVariables false
set_option linter.unusedSimpArgs false
namespace Go.Proofs.YtadnfekogmjieaaGreatDoor.Mc
def impN (l : List Im) (k : Int) : Nat := (l.filter fun x => x.kind == k).length
theorem impN_le (l : List Im) (k : Int) : impN l k ≤ l.length := List.length_filter_le _ _
def nthI : List Im → Int → Int → Option Im
  | [], _, _ => none
  | x :: l, k, i => if x.kind = k then (if i = 0 then some x else nthI l k (i - 1)) else nthI l k i
theorem nthI_neg {k : Int} : ∀ {l : List Im} {i : Int}, i < 0 → nthI l k i = none
  | [], _, _ => rfl
  | x :: l, i, h => by
    unfold nthI
    split
    · rw [if_neg (by omega)]; exact nthI_neg (by omega)
    · exact nthI_neg h
theorem nthI_far {k : Int} : ∀ {l : List Im} {i : Int}, (l.length : Int) ≤ i → nthI l k i = none
  | [], _, _ => rfl
  | x :: l, i, h => by
    rw [List.length_cons] at h
    unfold nthI
    split
    · rw [if_neg (by omega)]; exact nthI_far (by omega)
    · exact nthI_far (by omega)
theorem ent_neg {α : Type} {l : List α} {i : Int} (h : i < 0) : ent l i = none := by unfold ent; rw [if_neg (by omega)]
theorem ent_nat {α : Type} (l : List α) (i : Nat) : ent l (i : Int) = l[i]? := by unfold ent; rw [if_pos (by omega)]; simp
theorem ent_succ {α : Type} {x : α} {l : List α} {i : Int} (h : 0 < i) : ent (x :: l) i = ent l (i - 1) := by
  obtain ⟨k, rfl⟩ : ∃ k : Nat, i = ((k + 1 : Nat) : Int) := ⟨(i - 1).toNat, by omega⟩
  rw [ent_nat, show ((k + 1 : Nat) : Int) - 1 = (k : Int) by omega, ent_nat]; rfl
theorem ent_map {α β : Type} (f : α → β) (l : List α) (i : Int) : ent (l.map f) i = (ent l i).map f := by
  unfold ent; split
  · simp
  · rfl
theorem nthI_ent (k : Int) : ∀ (l : List Im) (i : Int), nthI l k i = ent (l.filter fun x => x.kind == k) i
  | [], i => by unfold nthI ent; split <;> simp
  | x :: l, i => by
    unfold nthI
    by_cases hk : x.kind = k
    · rw [if_pos hk, List.filter_cons_of_pos (by simpa using hk)]
      rcases Int.lt_trichotomy i 0 with h | h | h
      · rw [if_neg (by omega), ent_neg h, nthI_neg (by omega)]
      · subst h; rw [if_pos rfl]; rfl
      · rw [if_neg (by omega), ent_succ h]; exact nthI_ent k l _
    · rw [if_neg hk, List.filter_cons_of_neg (by simpa using hk)]
      exact nthI_ent k l i
def ownI (c : Nat) (i : Int) (n : Nat) : Int := if i < 0 then -1 else if i - (c : Int) < 0 ∨ (n : Int) ≤ i - (c : Int) then -1 else i - (c : Int)
theorem own_cases (c : Nat) (i : Int) (n : Nat) : ownI c i n = -1 ∨ ∃ j : Nat, j < n ∧ ownI c i n = (j : Int) := by
  unfold ownI
  split
  · exact .inl rfl
  · split
    · exact .inl rfl
    · exact .inr ⟨(i - (c : Int)).toNat, by omega, by omega⟩
section
variable {α : Type} {l : List Im} {g : Im → α} {b : List α} {k i : Int}
theorem it_imp {x : Im} (h : nthI l k i = some x) : ent ((l.filter fun x => x.kind == k).map g ++ b) i = some (g x) := by
  rw [nthI_ent] at h
  have h2 : ent ((l.filter fun x => x.kind == k).map g) i = some (g x) := by rw [ent_map, h]; rfl
  unfold ent at h2 ⊢
  split at h2
  · rename_i h0
    rw [if_pos h0, List.getElem?_append_left (List.getElem?_eq_some_iff.1 h2).1]; exact h2
  · cases h2
theorem nth_none (h : nthI l k i = none) (h0 : 0 ≤ i) : (impN l k : Int) ≤ i := by
  rw [nthI_ent] at h
  unfold ent at h
  rw [if_pos h0] at h
  have := List.getElem?_eq_none_iff.1 h
  unfold impN; omega
theorem it_own {j : Nat} (h : nthI l k i = none) (hj : j < b.length) (h2 : ownI (impN l k) i b.length = (j : Int)) : ent ((l.filter fun x => x.kind == k).map g ++ b) i = some b[j] := by
  unfold ownI at h2
  split at h2
  · omega
  · split at h2
    · omega
    · rename_i h0 h1
      have hl : ((l.filter fun x => x.kind == k).map g).length = impN l k := by rw [List.length_map]; rfl
      obtain ⟨u, rfl⟩ : ∃ u : Nat, i = (u : Int) := ⟨i.toNat, by omega⟩
      rw [ent_nat, List.getElem?_append_right (by rw [hl]; omega), hl, show u - impN l k = j by omega]
      exact List.getElem?_eq_getElem hj
theorem it_no (h : nthI l k i = none) (h2 : ownI (impN l k) i b.length = -1) : ent ((l.filter fun x => x.kind == k).map g ++ b) i = none := by
  by_cases h0 : i < 0
  · exact ent_neg h0
  · have h3 := nth_none h (by omega)
    unfold ownI at h2
    rw [if_neg h0] at h2
    split at h2
    · have hl : ((l.filter fun x => x.kind == k).map g).length = impN l k := by rw [List.length_map]; rfl
      obtain ⟨u, rfl⟩ : ∃ u : Nat, i = (u : Int) := ⟨i.toNat, by omega⟩
      rw [ent_nat, List.getElem?_eq_none_iff, List.length_append, hl]; omega
    · omega
end
def lensO : Option (List Int × List Int) → (Nat × Nat) × Bool
  | some f => ((f.1.length, f.2.length), true)
  | none => ((0, 0), false)
theorem typLen_lens (t : Th) (i : Int) : typLen t i = lensO (ent t.types i) := by unfold typLen; cases ent t.types i <;> rfl
def funO (t : Th) (i : Int) : (Nat × Nat) × Bool := match ent t.funcs i with | some z => lensO (ent t.types z) | none => ((0, 0), false)
theorem call_fun (t : Th) (x : Mi) : ndOf (callW t x) = ⟨(funO t x.a).1.2, (funO t x.a).1.1, (funO t x.a).2⟩ := by
  unfold callW funO
  rcases ent t.funcs x.a with _ | z
  · rfl
  · dsimp only; rw [typLen_lens]; rfl
theorem cnt_app {l : List Im} {α : Type} {g : Im → α} {k : Int} (b : List α) : ((l.filter fun x => x.kind == k).map g ++ b).length = impN l k + b.length := by rw [List.length_append, List.length_map]; rfl
end Go.Proofs.YtadnfekogmjieaaGreatDoor.Mc
set_option linter.unusedVariables false
set_option linter.unusedSimpArgs false
namespace Go.Proofs.YtadnfekogmjieaaGreatDoor.Mc
def othN (t : Th) (x : Mi) (nr : Nat) : Nd :=
  if x.kind = 10 then ⟨1, 0, inL x.a t.globals.length⟩
  else if x.kind = 11 then ⟨0, 1, setOk t x⟩
  else if x.kind = 12 then ndOf (callW t x)
  else if x.kind = 13 then ndOf (calliW t x)
  else if x.kind = 14 then ⟨1, 0, inL x.a t.funcs.length⟩
  else if x.kind = 18 then ⟨0, 0, decide (1 ≤ x.a) && decide (x.a ≤ 4294967295)⟩
  else if x.kind = 19 then ⟨0, 0, x.tos.length == 1⟩
  else if x.kind = 20 then ⟨0, 1, x.tos.length == 1⟩
  else if x.kind = 21 then ⟨0, 1, decide (1 ≤ x.tos.length)⟩
  else if x.kind = 22 then ⟨0, nr, true⟩
  else if x.kind = 23 then ⟨0, 0, decide (1 ≤ x.trap) && decide (x.trap ≤ 12)⟩
  else nd0
def ownK (k : Int) : Prop := k = 0 ∨ k = 1 ∨ k = 15 ∨ k = 2 ∨ k = 3 ∨ k = 4 ∨ k = 5 ∨ k = 6 ∨ k = 7 ∨ k = 8 ∨ k = 9 ∨ k = 16 ∨ k = 17
theorem need_oth {t : Th} {x : Mi} {nr : Nat} (h : ¬ ownK x.kind) : need t x nr = othN t x nr := by
  unfold ownK at h
  simp only [not_or] at h
  obtain ⟨h0, h1, h2, h3, h4, h5, h6, h7, h8, h9, h10, h11, h12⟩ := h
  unfold need othN
  rw [if_neg h0, if_neg h1, if_neg h2, if_neg h3, if_neg h4, if_neg h5, if_neg h6, if_neg h7, if_neg h8, if_neg h9, if_neg h10, if_neg h11, if_neg h12]
theorem inL_iff (i : Int) (n : Nat) : inL i n = true ↔ 0 ≤ i ∧ i < (n : Int) := by
  unfold inL within
  rw [Bool.and_eq_true, decide_eq_true_iff, decide_eq_true_iff]
  omega
theorem th_tables (m : Md) : (thOf m).tables.length = impN m.imps 1 + m.tables.length := cnt_app _
theorem th_funcs (m : Md) : (thOf m).funcs.length = impN m.imps 0 + m.funcs.length := cnt_app _
theorem th_mems (m : Md) : (thOf m).mems = impN m.imps 2 + m.mems := by show m.mems + impM m.imps = _; rw [Nat.add_comm]; rfl
section
variable {m : Md} {i : Int} {y : Im} {j : Nat}
theorem fun_imp (h : nthI m.imps 0 i = some y) : funO (thOf m) i = lensO (ent m.types y.func) := by
  unfold funO
  rw [show ent (thOf m).funcs i = some y.func from it_imp h]; rfl
theorem fun_own (h : nthI m.imps 0 i = none) (hj : j < m.funcs.length) (h2 : ownI (impN m.imps 0) i m.funcs.length = (j : Int)) : funO (thOf m) i = lensO (ent m.types m.funcs[j]) := by
  unfold funO
  rw [show ent (thOf m).funcs i = some m.funcs[j] from it_own h hj h2]; rfl
theorem fun_no (h : nthI m.imps 0 i = none) (h2 : ownI (impN m.imps 0) i m.funcs.length = -1) : funO (thOf m) i = ((0, 0), false) := by
  unfold funO
  rw [show ent (thOf m).funcs i = none from it_no h h2]
theorem tab_imp (h : nthI m.imps 1 i = some y) : ent (thOf m).tables i = some y.elem := it_imp h
theorem tab_own (h : nthI m.imps 1 i = none) (hj : j < m.tables.length) (h2 : ownI (impN m.imps 1) i m.tables.length = (j : Int)) : ent (thOf m).tables i = some m.tables[j] := it_own h hj h2
theorem tab_no (h : nthI m.imps 1 i = none) (h2 : ownI (impN m.imps 1) i m.tables.length = -1) : ent (thOf m).tables i = none := it_no h h2
theorem glo_imp (h : nthI m.imps 3 i = some y) : ent (thOf m).globals i = some (y.gtyp, y.gmut) := it_imp (g := fun x : Im => (x.gtyp, x.gmut)) h
theorem glo_own (h : nthI m.imps 3 i = none) (hj : j < m.globals.length) (h2 : ownI (impN m.imps 3) i m.globals.length = (j : Int)) : ent (thOf m).globals i = some m.globals[j] := it_own h hj h2
theorem glo_no (h : nthI m.imps 3 i = none) (h2 : ownI (impN m.imps 3) i m.globals.length = -1) : ent (thOf m).globals i = none := it_no h h2
end
end Go.Proofs.YtadnfekogmjieaaGreatDoor.Mc
