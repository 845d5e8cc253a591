/-
  Layer 51, plain: cutting and joining, words, numbers read back. (Put together of chapters 16's and 40's plain texts.)
  Layer 51, plain: the program's reader of an instruction; it reads exactly the lines of the printable ones.
  Layer 51, plain: the program's readers of the first line and of a function; they read exactly what Print prints.
  Layer 51, plain: the reference's readers read the same functions as the program's.
  Layer 51, plain: what Check asks of an instruction, by the program and by the reference.
  Layer 51, plain: Check, by the program and by the reference.
  Layer 51, plain: the reference's Print.
  Layer 51, plain: correct code: what it gives, with more registers, cut off, turned, printed.
  Layer 51, plain: the worked examples. (Printed by gen_ml2.py.)
-/
import Derived.Test.YtadnfekogmjieaaGreatDoorFGF
import Derived.Test.YtadnfekogmjieaaGreatDoorFGH
import Derived.Lib.ParseIntBTie
set_option linter.unusedVariables false
set_option linter.unusedSimpArgs false
namespace Go.Proofs.YtadnfekogmjieaaGreatDoor.Ltr
theorem decDigits_ten {n : Nat} (h : ¬ n < 10) : Lib.decDigits n = Lib.decDigits (n / 10) ++ [UInt8.ofNat (48 + n % 10)] := by rw [Lib.decDigits, dif_neg h]
theorem dig_fin : ∀ d : Fin 10, dig (UInt8.ofNat (48 + d.val)) = (d.val : Int) ∧ UInt8.ofNat (48 + d.val) ≠ 95 ∧ UInt8.ofNat (48 + d.val) ≠ 45 ∧ UInt8.ofNat (48 + d.val) ≠ 43 ∧ UInt8.ofNat (48 + d.val) ≠ 120 := by decide +kernel
theorem mgo_digit (d : Nat) (h : d < 10) (base : Nat) (hb : 10 ≤ base) (t : List UInt8) (a : Nat) (g : Bool) : mgo base (UInt8.ofNat (48 + d) :: t) a g = mgo base t (a * base + d) true := by
  obtain ⟨h1, h2, _⟩ := dig_fin ⟨d, h⟩
  simp only at h1 h2
  conv => lhs; unfold mgo
  have h3 : (UInt8.ofNat (48 + d) == 95) = false := by simpa only [beq_eq_false_iff_ne] using h2
  rw [h1, h3, if_neg (by simp), if_neg (by omega), Int.toNat_natCast]
theorem mgo_dec (n : Nat) : ∀ (t : List UInt8) (a : Nat) (g : Bool), mgo 10 (Lib.decDigits n ++ t) a g = mgo 10 t (a * 10 ^ (Lib.decDigits n).length + n) true := by
  induction n using Nat.strongRecOn with
  | ind n ih =>
    intro t a g
    by_cases h : n < 10
    · rw [Lib.decDigits_one h]
      show mgo 10 (UInt8.ofNat (48 + n) :: t) a g = _
      rw [mgo_digit n h 10 (by omega)]
      rfl
    · rw [decDigits_ten h, List.append_assoc, ih (n / 10) (by omega)]
      show mgo 10 (UInt8.ofNat (48 + n % 10) :: t) _ true = _
      rw [mgo_digit (n % 10) (by omega) 10 (by omega), List.length_append, List.length_singleton, Nat.pow_succ]
      congr 1
      rw [Nat.add_mul, Nat.mul_assoc]
      omega
theorem dec_chars (n : Nat) : ∀ c ∈ Lib.decDigits n, ∃ d : Fin 10, c = UInt8.ofNat (48 + d.val) := by
  induction n using Nat.strongRecOn with
  | ind n ih =>
    intro c hc
    by_cases h : n < 10
    · rw [Lib.decDigits_one h] at hc
      exact ⟨⟨n, h⟩, List.mem_singleton.1 hc⟩
    · rw [decDigits_ten h] at hc
      rcases List.mem_append.1 hc with hc | hc
      · exact ih (n / 10) (by omega) c hc
      · exact ⟨⟨n % 10, by omega⟩, List.mem_singleton.1 hc⟩
/-- Nothing but digits (and underscores): no hexadecimal mark. -/
theorem not_hexed {l : List UInt8} (h : ∀ c ∈ l, c ≠ 120) : hexed l = false := by
  unfold hexed
  cases hx : (l.take 2 == [48, 120]) with
  | false => simp
  | true =>
    exfalso
    have := eq_of_beq hx
    have hm : (120 : UInt8) ∈ l.take 2 := by rw [this]; simp
    exact h _ (List.mem_of_mem_take hm) rfl
theorem dec_not_x (n : Nat) : ∀ c ∈ Lib.decDigits n, c ≠ 120 := by
  intro c hc
  obtain ⟨d, rfl⟩ := dec_chars n c hc
  exact (dig_fin d).2.2.2.2
theorem mag_dec (n : Nat) : mag (Lib.decDigits n) = some (n, true) := by
  unfold mag
  rw [not_hexed (dec_not_x n), if_neg (by decide)]
  have := mgo_dec n [] 0 false
  rw [List.append_nil] at this
  rw [this, Nat.zero_mul, Nat.zero_add]
  rfl
theorem magR_some (n : Nat) (h : n < 18446744073709551616) : magR (some (n, true)) = (n, false, true) := by
  unfold magR
  dsimp only
  rw [Nat.mod_eq_of_lt h, decide_eq_false (by omega)]
theorem dec_cons (n : Nat) : ∃ d t, Lib.decDigits n = UInt8.ofNat (48 + (d : Fin 10).val) :: t ∧ ∀ c ∈ t, ∃ d : Fin 10, c = UInt8.ofNat (48 + d.val) := by
  have hc := dec_chars n
  cases h : Lib.decDigits n with
  | nil =>
    exfalso
    by_cases h10 : n < 10
    · rw [Lib.decDigits_one h10] at h; cases h
    · rw [decDigits_ten h10] at h; simp at h
  | cons c t =>
    rw [h] at hc
    obtain ⟨d, rfl⟩ := hc _ (List.mem_cons_self ..)
    exact ⟨d, t, rfl, fun c hm => hc c (List.mem_cons_of_mem _ hm)⟩
theorem dec_unsig (n : Nat) (t : List UInt8) : isNeg (Lib.decDigits n ++ t) = false ∧ unsig (Lib.decDigits n ++ t) = Lib.decDigits n ++ t := by
  obtain ⟨d, r, h, _⟩ := dec_cons n
  obtain ⟨_, _, h1, h2, _⟩ := dig_fin d
  rw [h]
  obtain ⟨c, hc⟩ : ∃ c, UInt8.ofNat (48 + d.val) = c := ⟨_, rfl⟩
  rw [hc] at h1 h2 ⊢
  unfold unsig isNeg isSig
  simp [h1, h2]
theorem num_dec (n : Nat) (h : n < 18446744073709551616) (bits : Int) (h1 : 1 ≤ bits) (h2 : bits ≤ 64) : numF (Lib.decDigits n) bits = if 2 ^ bits.toNat - 1 < n then (0, 6) else ((n : Int), 0) := by
  unfold numF
  have hu := dec_unsig n []
  rw [List.append_nil] at hu
  rw [if_neg (by omega), hu.1, hu.2, mag_dec, magR_some n h]
  unfold numR
  simp
end Go.Proofs.YtadnfekogmjieaaGreatDoor.Ltr
namespace Go.Proofs.YtadnfekogmjieaaGreatDoor.Mc
abbrev W := List UInt8
theorem index_head {c : UInt8} {t u v : W} (h : c ∉ u) : Lib.index (u ++ ((c :: t) ++ v)) (c :: t) = (u.length : Int) := by
  refine Lib.index_first (by simp) ?_ ?_
  · unfold Lib.occAt
    rw [List.drop_left]
    exact List.isPrefixOf_iff_prefix.2 (List.prefix_append _ _)
  · intro j hj
    rcases ho : Lib.occAt (u ++ ((c :: t) ++ v)) (c :: t) j with _ | _
    · rfl
    · have := Lib.occAt_head rfl ho
      rw [List.getElem?_append_left hj] at this
      exact absurd (List.mem_of_getElem? this) h
theorem index_miss {c : UInt8} {t s : W} (h : c ∉ s) : Lib.index s (c :: t) = -1 := by
  refine Lib.index_none fun j hj => ?_
  rcases ho : Lib.occAt s (c :: t) j with _ | _
  · rfl
  · exact absurd (List.mem_of_getElem? (Lib.occAt_head rfl ho)) h
theorem split_no {s sep : W} (h : Lib.index s sep = -1) : Lib.split s sep = [s] := by
  unfold Lib.split
  rw [Lib.count_miss h]
  rfl
theorem split_hit {s sep : W} {i : Nat} (hs : sep ≠ []) (h : Lib.index s sep = i) : Lib.split s sep = s.take i :: Lib.split (s.drop (i + sep.length)) sep := by
  unfold Lib.split
  have hne : ¬ ((Lib.index s sep == -1) = true) := by rw [h]; simp
  rw [Lib.count_hit hs h, Nat.add_comm 1, Lib.splitK, if_neg hne, h]
  simp
theorem joinTail_ne {l : List W} (sep : W) (h : l ≠ []) : Lib.joinTail sep l = sep ++ Lib.join l sep := by
  rcases l with _ | ⟨b, l⟩
  · exact absurd rfl h
  · rw [Lib.join_cons]; simp [Lib.joinTail]
theorem join_split (sep : W) (hs : sep ≠ []) (n : Nat) : ∀ s : W, s.length ≤ n → Lib.join (Lib.split s sep) sep = s ∧ Lib.split s sep ≠ [] := by
  have hsl : 0 < sep.length := List.length_pos_iff.2 hs
  induction n with
  | zero =>
    intro s h
    rcases Lib.index_spec s sep with ⟨h1, _⟩ | ⟨i, h1, h2, h3, _⟩
    · rw [split_no h1]; exact ⟨Lib.join_one _ _, by simp⟩
    · rcases Lib.occAt_room h3 with h' | h'
      · omega
      · exact absurd h' hs
  | succ n ih =>
    intro s h
    rcases Lib.index_spec s sep with ⟨h1, _⟩ | ⟨i, h1, h2, h3, _⟩
    · rw [split_no h1]; exact ⟨Lib.join_one _ _, by simp⟩
    · have hr : i + sep.length ≤ s.length := by
        rcases Lib.occAt_room h3 with h' | h'
        · exact h'
        · exact absurd h' hs
      rw [split_hit hs h1]
      refine ⟨?_, by simp⟩
      obtain ⟨e1, e2⟩ := ih (s.drop (i + sep.length)) (by rw [List.length_drop]; omega)
      rw [Lib.join_cons, joinTail_ne _ e2, e1]
      unfold Lib.occAt at h3
      obtain ⟨t, ht⟩ := List.isPrefixOf_iff_prefix.1 h3
      have : s.drop (i + sep.length) = t := by
        rw [← List.drop_drop, ← ht, List.drop_left]
      rw [this, ht, List.take_append_drop]
theorem split_join {c : UInt8} {t : W} : ∀ (L : List W), L ≠ [] → (∀ x ∈ L, c ∉ x) → Lib.split (Lib.join L (c :: t)) (c :: t) = L
  | [], h, _ => absurd rfl h
  | [x], _, hx => by rw [Lib.join_one, split_no (index_miss (hx x (by simp)))]
  | x :: y :: L, _, hx => by
    rw [Lib.join_cons, joinTail_ne _ (by simp), split_hit (by simp) (index_head (hx x (by simp)))]
    rw [List.take_left, ← List.append_assoc x, List.drop_left' (by simp)]
    rw [split_join (y :: L) (by simp) (fun z hz => hx z (by simp at hz ⊢; exact .inr hz))]
theorem join_mem {sep : W} {b : UInt8} : ∀ {L : List W}, b ∈ Lib.join L sep → b ∈ sep ∨ ∃ x ∈ L, b ∈ x
  | [], h => by simp [Lib.join, List.intercalate] at h
  | [x], h => by rw [Lib.join_one] at h; exact .inr ⟨x, by simp, h⟩
  | x :: y :: L, h => by
    rw [Lib.join_cons, joinTail_ne _ (by simp)] at h
    simp only [List.mem_append] at h
    rcases h with h | h | h
    · exact .inr ⟨x, by simp, h⟩
    · exact .inl h
    · rcases join_mem h with h | ⟨z, hz, hb⟩
      · exact .inl h
      · exact .inr ⟨z, List.mem_cons_of_mem _ hz, hb⟩
theorem trimP_len (s p : W) : (Lib.trimPrefix s p).length ≤ s.length := by unfold Lib.trimPrefix; split <;> simp
theorem cut_len (s p : W) : (Lib.cut s p).1.length ≤ s.length ∧ (Lib.cut s p).2.1.length ≤ s.length := by
  unfold Lib.cut
  split
  · dsimp only; rw [List.length_take, List.length_drop]; omega
  · simp
theorem split_len (s sep : W) (h1 : 1 ≤ sep.length) : (Lib.split s sep).length ≤ s.length + 1 := by
  have hsz : (ByteArray.mk s.toArray).size = s.length := by simp [ByteArray.size]
  have hsp : (ByteArray.mk sep.toArray).size = sep.length := by simp [ByteArray.size]
  have e3 : Lib.split s sep = (Lib.splitB ⟨sep.toArray⟩ 0 (Lib.countB ⟨s.toArray⟩ ⟨sep.toArray⟩) ⟨s.toArray⟩).map (·.data.toList) := by rw [Lib.splitB_data]; rfl
  rw [e3, List.length_map, Lib.splitB_all _ (by omega) _ _ _ rfl]
  have := Lib.countB_le ⟨sep.toArray⟩ (by omega) _ ⟨s.toArray⟩ (Nat.le_refl _)
  omega
theorem trimP_app (p s : W) : Lib.hasPrefix (p ++ s) p = true ∧ Lib.trimPrefix (p ++ s) p = s := by
  have h : Lib.hasPrefix (p ++ s) p = true := List.isPrefixOf_iff_prefix.2 (List.prefix_append _ _)
  refine ⟨h, ?_⟩
  unfold Lib.trimPrefix
  rw [if_pos h, List.drop_left]
theorem dec_small {n : Nat} (h : n < 10) : Lib.decDigits n = [UInt8.ofNat (48 + n)] := Lib.decDigits_one h
theorem dec_big {n : Nat} (h : ¬ n < 10) : Lib.decDigits n = Lib.decDigits (n / 10) ++ [UInt8.ofNat (48 + n % 10)] := Ltr.decDigits_ten h
def isD (b : UInt8) : Bool := decide (48 ≤ b.toNat) && decide (b.toNat ≤ 57)
theorem isD_digit (d : Nat) (h : d < 10) : isD (UInt8.ofNat (48 + d)) = true ∧ (UInt8.ofNat (48 + d)).toNat = 48 + d := by
  have : (UInt8.ofNat (48 + d)).toNat = 48 + d := by rw [UInt8.toNat_ofNat']; omega
  refine ⟨?_, this⟩
  unfold isD
  rw [this]
  simp; omega
theorem dec_isD (n : Nat) : ∀ b ∈ Lib.decDigits n, isD b = true := by
  induction n using Nat.strongRecOn with
  | _ n ih =>
    intro b hb
    by_cases h : n < 10
    · rw [dec_small h] at hb
      rw [List.mem_singleton.1 hb]
      exact (isD_digit n h).1
    · rw [dec_big h] at hb
      rcases List.mem_append.1 hb with hb | hb
      · exact ih _ (by omega) b hb
      · rw [List.mem_singleton.1 hb]
        exact (isD_digit (n % 10) (by omega)).1
theorem dec_ne (n : Nat) : Lib.decDigits n ≠ [] := by
  by_cases h : n < 10
  · rw [dec_small h]; simp
  · rw [dec_big h]; simp
theorem parseUintM_app (M : Nat) (a b : List UInt8) (acc v : Nat) (h : Lib.parseUintM M acc a = .ok v) : Lib.parseUintM M acc (a ++ b) = Lib.parseUintM M v b := by
  induction a generalizing acc with
  | nil => simp only [Lib.parseUintM] at h; injection h with h; rw [h]; rfl
  | cons c a ih =>
    simp only [Lib.parseUintM, List.cons_append] at h ⊢
    split at h
    · split at h
      · cases h
      · split at h
        · cases h
        · rename_i h1 h2 h3
          rw [if_pos h1, if_neg h2, if_neg h3]
          exact ih _ h
    · cases h
theorem parseUintM_dec (n : Nat) (hn : n < 18446744073709551616) : Lib.parseUintM 18446744073709551615 0 (Lib.decDigits n) = .ok n := by
  induction n using Nat.strongRecOn with
  | _ n ih =>
    by_cases h : n < 10
    · rw [dec_small h]
      obtain ⟨-, hd⟩ := isD_digit n h
      simp only [Lib.parseUintM, hd]
      rw [if_pos (by omega), if_neg (by omega), if_neg (by omega)]
      congr 1; omega
    · rw [dec_big h, parseUintM_app _ _ _ _ _ (ih (n / 10) (by omega) (by omega))]
      obtain ⟨-, hd⟩ := isD_digit (n % 10) (by omega)
      simp only [Lib.parseUintM, hd]
      rw [if_pos (by omega), if_neg (by omega), if_neg (by omega)]
      congr 1; omega
theorem parseUintB_dec {n : Nat} (hn : n < 18446744073709551616) : Lib.parseUintB 64 (Lib.decDigits n) = .ok n := by
  unfold Lib.parseUintB
  rw [if_neg (dec_ne n)]
  exact parseUintM_dec n hn
theorem puint_dec {n : Nat} (hn : n < 18446744073709551616) : puint (Lib.decDigits n) = (n, true) := by
  unfold puint
  rw [parseUintB_dec hn]
theorem puint_in (l : List UInt8) : (puint l).1 < 18446744073709551616 := by
  unfold puint
  rcases h : Lib.parseUintB 64 l with v | _ | _
  · have := Lib.parseUintB_le h
    simp only at this ⊢; omega
  · simp
  · simp
/-- A word of printable ASCII without a blank. -/
def w1 (w : List UInt8) : Bool := !(w == []) && w.all fun b => decide (33 ≤ b.toNat) && decide (b.toNat ≤ 126)
theorem w1_ne {w : List UInt8} (h : w1 w = true) : w ≠ [] := by unfold w1 at h; simp at h; exact h.1
theorem w1_mem {w : List UInt8} (h : w1 w = true) : ∀ b ∈ w, 33 ≤ b.toNat ∧ b.toNat ≤ 126 := by unfold w1 at h; simpa using (by simp at h; exact h.2)
theorem w1_dec (n : Nat) : w1 (Lib.decDigits n) = true := by
  unfold w1
  simp only [Bool.and_eq_true, List.all_eq_true]
  refine ⟨by simpa using dec_ne n, fun b hb => ?_⟩
  have := dec_isD n b hb
  unfold isD at this
  simp at this
  simp; omega
theorem w1_itoa (z : Int) : w1 (Lib.itoa z) = true := by
  have hi : Lib.itoa z = if z < 0 then 45 :: Lib.decDigits z.natAbs else Lib.decDigits z.toNat := rfl
  rw [hi]
  split
  · have := w1_dec z.natAbs
    unfold w1 at this ⊢
    simp at this ⊢
    exact this.2
  · exact w1_dec _
theorem w1_blank {w : List UInt8} (h : w1 w = true) : ∀ b ∈ w, b ≠ 32 := fun b hb e => by
  have := w1_mem h b hb
  subst e
  revert this; decide
set_option maxRecDepth 100000 in
theorem w1_ops : ∀ x ∈ Opc.all, w1 x.2 = true := by decide +kernel
def opFind (w : W) : Int × Bool := match Opc.seek w Opc.all with | some op => (op, true) | none => (0, false)
set_option maxRecDepth 100000 in
theorem op_rows : ∀ x ∈ Opc.all, (Opc.look x.1 Opc.all = some x.2) ∧ (x.1 = 28 ∨ Opc.seek x.2 Opc.all = some x.1) := by decide +kernel
set_option maxRecDepth 100000 in
theorem op_range : ∀ x ∈ Opc.all, 0 ≤ x.1 ∧ x.1 ≤ 64529 := by decide +kernel
theorem opFind_name {op : Int} (h : Opc.known op = true) (h28 : op ≠ 28) : opFind (Opc.name op) = (op, true) := by
  unfold Opc.known at h
  unfold Opc.name opFind
  rcases hl : Opc.look op Opc.all with _ | s
  · rw [hl] at h; cases h
  · have := (op_rows _ (look_mem hl)).2.resolve_left h28
    simp only [Option.getD_some]
    rw [this]
theorem seek_mem {w : W} {op : Int} {l : List (Int × List UInt8)} (h : Opc.seek w l = some op) : (op, w) ∈ l := by
  induction l with
  | nil => cases h
  | cons r l ih =>
    rw [Opc.seek] at h
    split at h
    · rename_i hr
      cases h; subst hr; simp
    · exact List.mem_cons_of_mem _ (ih h)
/-- Names of types, all of them or none. -/
def valsP (ws : List W) : List Int × Bool := if ws.all (fun w => (Ty.find w).2) then (ws.map (fun w => (Ty.find w).1), true) else ([], false)
theorem name_facts {v : Int} (h : Ty.val v = true) : Ty.find (Ty.name v) = (v, true) ∧ Ty.shown v = Ty.name v ∧ w1 (Ty.name v) = true ∧ 44 ∉ Ty.name v ∧ 41 ∉ Ty.name v ∧ Ty.name v ≠ [] := by
  rcases Ty.five v with rfl | rfl | rfl | rfl | h'
  all_goals first | decide | (rw [Ty.val_no h'] at h; cases h)
theorem find_val {w : W} (h : (Ty.find w).2 = true) : Ty.val (Ty.find w).1 = true ∧ 3 ≤ w.length := by
  unfold Ty.find at h ⊢
  split
  · rename_i e; rw [← e]; decide
  · split
    · rename_i e; rw [← e]; decide
    · split
      · rename_i e; rw [← e]; decide
      · split
        · rename_i e; rw [← e]; decide
        · rename_i a b c d
          rw [if_neg a, if_neg b, if_neg c, if_neg d] at h
          cases h
theorem valsP_back {l : List Int} (h : l.all Ty.val = true) : valsP (l.map Ty.name) = (l, true) := by
  have hv : ∀ v ∈ l, Ty.find (Ty.name v) = (v, true) := fun v hv => (name_facts (List.all_eq_true.1 h v hv)).1
  have h1 : ((l.map Ty.name).all fun w => (Ty.find w).2) = true := by
    rw [List.all_eq_true]
    intro w hw
    obtain ⟨v, hv', rfl⟩ := List.mem_map.1 hw
    rw [hv v hv']
  have h2 : ((l.map Ty.name).map fun w => (Ty.find w).1) = l := by
    rw [List.map_map]
    refine Eq.trans (List.map_congr_left fun v hv' => ?_) (List.map_id l)
    simp [hv v hv']
  unfold valsP
  rw [if_pos h1, h2]
theorem shown_name {l : List Int} (h : l.all Ty.val = true) : l.map Ty.shown = l.map Ty.name := List.map_congr_left fun v hv => (name_facts (List.all_eq_true.1 h v hv)).2.1
theorem find_name {w : W} (h : (Ty.find w).2 = true) : Ty.name (Ty.find w).1 = w := by
  unfold Ty.find at h ⊢
  split
  · rename_i e; rw [← e]
  · split
    · rename_i e; rw [← e]
    · split
      · rename_i e; rw [← e]
      · split
        · rename_i e; rw [← e]
        · rename_i a b c d
          rw [if_neg a, if_neg b, if_neg c, if_neg d] at h
          cases h
end Go.Proofs.YtadnfekogmjieaaGreatDoor.Mc
set_option linter.unusedVariables false
set_option linter.unusedSimpArgs false
namespace Go.Proofs.YtadnfekogmjieaaGreatDoor.Mc
structure Rs where
  l : List W
  ok : Bool
def natP (w : W) : Int × Bool := ((Ltr.natF w 4294967295).1, (Ltr.natF w 4294967295).2 == 0)
def nxt (r : Rs) : Rs := ⟨r.l.tail, r.ok && !r.l.isEmpty⟩
def numO (r : Rs) : Int × Rs := ((natP (r.l.headD [])).1, ⟨r.l.tail, (r.ok && !r.l.isEmpty) && (natP (r.l.headD [])).2⟩)
def isPl (w : W) : Bool := decide (1 < w.length) && (w.head? == some 114 || w.head? == some 115)
def spotsGo : List W → Bool → List Pl × Rs
  | [], ok => ([], ⟨[], ok⟩)
  | w :: l, ok => if isPl w then (⟨w.head? == some 115, (natP w.tail).1⟩ :: (spotsGo l (ok && (natP w.tail).2)).1, (spotsGo l (ok && (natP w.tail).2)).2) else ([], ⟨w :: l, ok⟩)
def numsGo : List W → Bool → List Int × Bool
  | [], ok => ([], ok)
  | w :: l, ok => ((natP w).1 :: (numsGo l (ok && (natP w).2)).1, (numsGo l (ok && (natP w).2)).2)
def kindTo (w : W) : Nat → Int
  | 0 => -1
  | i + 1 => if (row (i : Int)).w = w then (i : Int) else kindTo w i
def kindO (w : W) : Int := kindTo w 24
def optOp (b : Bool) (r : Rs) : Int × Rs := if b then ((opFind (r.l.headD [])).1, nxt r) else (0, r)
def optNum (b : Bool) (r : Rs) : Int × Rs := if b then numO r else (0, r)
def optN (b : Bool) (r : Rs) : Nat × Rs := if b then ((puint (r.l.headD [])).1, nxt r) else (0, r)
def srcO (r : Rs) : List Pl × Rs := if r.l.head? = some [61] then spotsGo r.l.tail r.ok else ([], r)
def toO (r : Rs) : List Int × Rs := if r.l.head? = some [58] then ((numsGo r.l.tail r.ok).1, ⟨[], (numsGo r.l.tail r.ok).2⟩) else ([], r)
def insF (k : Int) (r : Rs) : Mi × Rs :=
  let o := optOp (row k).op r
  let a := optNum (row k).a o.2
  let b := optNum (row k).b a.2
  let n := optN (row k).n b.2
  let t := optNum (row k).t n.2
  let d := spotsGo t.2.l t.2.ok
  let s := srcO d.2
  let z := toO s.2
  (⟨k, o.1, a.1, b.1, n.1, d.1, s.1, z.1, t.1⟩, z.2)
def mi0 : Mi := ⟨0, 0, 0, 0, 0, [], [], [], 0⟩
def insP (s : W) : Mi × Bool :=
  if kindO ((Lib.split s [32]).headD []) < 0 then (mi0, false)
  else ((insF (kindO ((Lib.split s [32]).headD [])) ⟨(Lib.split s [32]).tail, true⟩).1, (insF (kindO ((Lib.split s [32]).headD [])) ⟨(Lib.split s [32]).tail, true⟩).2.ok && ((insF (kindO ((Lib.split s [32]).headD [])) ⟨(Lib.split s [32]).tail, true⟩).2.l == [] && line (insF (kindO ((Lib.split s [32]).headD [])) ⟨(Lib.split s [32]).tail, true⟩).1 == s))
/-! Numbers. -/
theorem index_nat {z : Int} (h : index z = true) : ∃ n : Nat, z = n ∧ n ≤ 4294967295 := by
  unfold index within at h
  simp only [Bool.and_eq_true, decide_eq_true_eq] at h
  exact ⟨z.toNat, by omega, by omega⟩
theorem itoa_nat (n : Nat) : Lib.itoa (n : Int) = Lib.decDigits n := by
  show (if (n : Int) < 0 then _ else _) = _
  rw [if_neg (by omega)]; rfl
theorem natP_itoa {z : Int} (h : index z = true) : natP (Lib.itoa z) = (z, true) := by
  obtain ⟨n, rfl, hn⟩ := index_nat h
  rw [itoa_nat]
  unfold natP Ltr.natF
  rw [Ltr.mag_dec, Ltr.magR_some n (by omega)]
  dsimp only
  rw [if_neg (by decide), if_neg (by simp; omega)]
  simp
theorem itoa_ne {z : Int} : Lib.itoa z ≠ [] := w1_ne (w1_itoa z)
/-! What was written is read. -/
theorem optOp_back {b : Bool} {op : Int} (l : List W) (ok : Bool) (h0 : b = false → op = 0) (h1 : b = true → Opc.known op = true ∧ op ≠ 28) : optOp b ⟨(if b then [Opc.name op] else []) ++ l, ok⟩ = (op, ⟨l, ok⟩) := by
  rcases b with _ | _
  · simp [optOp, h0]
  · obtain ⟨h2, h3⟩ := h1 rfl
    simp [optOp, nxt, opFind_name h2 h3]
theorem optNum_back {b : Bool} {z : Int} (l : List W) (ok : Bool) (h0 : b = false → z = 0) (h1 : b = true → index z = true) : optNum b ⟨(if b then [Lib.itoa z] else []) ++ l, ok⟩ = (z, ⟨l, ok⟩) := by
  rcases b with _ | _
  · simp [optNum, h0]
  · simp [optNum, numO, natP_itoa (h1 rfl)]
theorem optN_back {b : Bool} {n : Nat} (l : List W) (ok : Bool) (h0 : b = false → n = 0) (h1 : n < 18446744073709551616) : optN b ⟨(if b then [Lib.decDigits n] else []) ++ l, ok⟩ = (n, ⟨l, ok⟩) := by
  rcases b with _ | _
  · simp [optN, h0]
  · simp [optN, nxt, puint_dec h1]
theorem isPl_plW (p : Pl) : isPl (plW p) = true := by
  have := List.length_pos_iff.2 (itoa_ne (z := p.n))
  unfold isPl plW
  rcases p.slot with _ | _ <;> simp <;> omega
theorem spotsGo_back {l : List W} (hl : ∀ w, l.head? = some w → isPl w = false) : ∀ (z : List Pl) (ok : Bool), (∀ p ∈ z, index p.n = true) → spotsGo (z.map plW ++ l) ok = (z, ⟨l, ok⟩)
  | [], ok, _ => by
    rcases l with _ | ⟨w, l⟩
    · rfl
    · rw [List.map_nil, List.nil_append, spotsGo, hl w rfl]; rfl
  | p :: z, ok, h => by
    have ht : (plW p).tail = Lib.itoa p.n := rfl
    have hs : ((plW p).head? == some 115) = p.slot := by unfold plW; rcases p.slot with _ | _ <;> rfl
    rw [List.map_cons, List.cons_append, spotsGo, isPl_plW, if_pos rfl, ht, natP_itoa (h p (by simp)), hs, Bool.and_true, spotsGo_back hl z ok (fun q hq => h q (by simp [hq]))]
theorem numsGo_back : ∀ (z : List Int) (ok : Bool), (∀ n ∈ z, index n = true) → numsGo (z.map Lib.itoa) ok = (z, ok)
  | [], ok, _ => rfl
  | n :: z, ok, h => by
    rw [List.map_cons, numsGo, natP_itoa (h n (by simp)), Bool.and_true, numsGo_back z ok (fun q hq => h q (by simp [hq]))]
set_option maxRecDepth 100000 in
theorem kind_row : ∀ k : Fin 24, kindO (row ((k.val : Nat) : Int)).w = ((k.val : Nat) : Int) := by decide +kernel
set_option maxRecDepth 100000 in
theorem kind_nil : kindO [] = -1 := by decide +kernel
set_option maxRecDepth 100000 in
theorem w1_rows : ∀ k : Fin 24, w1 (row ((k.val : Nat) : Int)).w = true := by decide +kernel
theorem kindTo_cases (w : W) : ∀ n : Nat, kindTo w n = -1 ∨ ∃ i : Nat, i < n ∧ kindTo w n = (i : Int) ∧ (row (i : Int)).w = w
  | 0 => .inl rfl
  | n + 1 => by
    unfold kindTo
    split
    · rename_i h; exact .inr ⟨n, by omega, rfl, h⟩
    · rcases kindTo_cases w n with h | ⟨i, h1, h2, h3⟩
      · exact .inl h
      · exact .inr ⟨i, by omega, h2, h3⟩
theorem kindO_cases (w : W) : kindO w = -1 ∨ ∃ i : Nat, i ≤ 23 ∧ kindO w = (i : Int) ∧ (row (i : Int)).w = w := by
  rcases kindTo_cases w 24 with h | ⟨i, h1, h2, h3⟩
  · exact .inl h
  · exact .inr ⟨i, by omega, h2, h3⟩
/-- What is known of a printable instruction. -/
structure Told (x : Mi) : Prop where
  kind : ∃ k : Nat, x.kind = k ∧ k ≤ 23
  op0 : (row x.kind).op = false → x.op = 0
  op1 : (row x.kind).op = true → Opc.known x.op = true ∧ x.op ≠ 28
  a0 : (row x.kind).a = false → x.a = 0
  a1 : index x.a = true
  b0 : (row x.kind).b = false → x.b = 0
  b1 : index x.b = true
  n0 : (row x.kind).n = false → x.n = 0
  t0 : (row x.kind).t = false → x.trap = 0
  t1 : 0 ≤ x.trap ∧ x.trap ≤ 12
  d : ∀ p ∈ x.d, index p.n = true
  s : ∀ p ∈ x.s, index p.n = true
  tos : ∀ z ∈ x.tos, index z = true
theorem any_far {l : List Pl} : l.any far = false ↔ ∀ p ∈ l, index p.n = true := by
  rw [List.any_eq_false]
  exact forall_congr' fun p => forall_congr' fun _ => by unfold far; simp
theorem any_farN {l : List Int} : l.any farN = false ↔ ∀ p ∈ l, index p = true := by
  rw [List.any_eq_false]
  exact forall_congr' fun p => forall_congr' fun _ => by unfold farN; simp
theorem told_iff (x : Mi) : told x = true ↔ Told x := by
  unfold told toldA spare spareR within
  simp only [Bool.and_eq_true, Bool.not_eq_true', decide_eq_true_eq, decide_eq_false_iff_not, any_far, any_farN, Bool.or_eq_true, beq_iff_eq, Bool.and_eq_false_iff, Bool.not_eq_false', Bool.or_eq_false_iff, beq_eq_false_iff_ne]
  constructor
  · rintro ⟨⟨⟨⟨⟨⟨⟨hk, ⟨⟨⟨h1, h2⟩, h3⟩, h4⟩, h5⟩, h6⟩, h7⟩, h8⟩, h9⟩, h10⟩, ⟨h11, h12⟩, h13⟩
    exact ⟨⟨x.kind.toNat, by omega, by omega⟩, fun e => h1.resolve_left (by rw [e]; decide), fun e => h6.resolve_left (by rw [e]; decide), fun e => h2.resolve_left (by rw [e]; decide), h7, fun e => h3.resolve_left (by rw [e]; decide), h8, fun e => h4.resolve_left (by rw [e]; decide), fun e => h5.resolve_left (by rw [e]; decide), by omega, h11, h12, h13⟩
  · intro h
    obtain ⟨k, hk, hk2⟩ := h.kind
    have tf : ∀ (b : Bool) (p : Prop), (b = false → p) → b = true ∨ p := fun b p h => by
      rcases b with _ | _
      · exact .inr (h rfl)
      · exact .inl rfl
    refine ⟨⟨⟨⟨⟨⟨⟨by omega, ⟨⟨⟨tf _ _ h.op0, tf _ _ h.a0⟩, tf _ _ h.b0⟩, tf _ _ h.n0⟩, tf _ _ h.t0⟩, ?_⟩, h.a1⟩, h.b1⟩, by have := h.t1; omega⟩, by have := h.t1; omega⟩, ⟨h.d, h.s⟩, h.tos⟩
    rcases hb : (row x.kind).op with _ | _
    · exact .inl rfl
    · exact .inr (h.op1 hb)
theorem w1_plW (p : Pl) : w1 (plW p) = true := by
  have := w1_itoa p.n
  unfold plW
  unfold w1 at this ⊢
  rcases p.slot with _ | _ <;> simp at this ⊢ <;> exact this.2
theorem w1_name {op : Int} (h : Opc.known op = true) : w1 (Opc.name op) = true := by
  unfold Opc.known at h
  unfold Opc.name
  rcases hl : Opc.look op Opc.all with _ | s
  · rw [hl] at h; cases h
  · exact w1_ops _ (look_mem hl)
theorem w1_lineW {x : Mi} (h : Told x) : ∀ w ∈ lineW x, w1 w = true := by
  have hif : ∀ (b : Bool) (u w : W), (b = true → w1 u = true) → w ∈ (if b then [u] else []) → w1 w = true := fun b u w h hw => by
    rcases b with _ | _
    · simp at hw
    · simp at hw; rw [hw]; exact h rfl
  intro w hw
  unfold lineW opsW at hw
  simp only [List.mem_cons, List.mem_append] at hw
  rcases hw with rfl | (hw | hw | hw | hw | hw) | hw | hw
  · obtain ⟨k, hk, hk2⟩ := h.kind
    rw [hk]
    exact w1_rows ⟨k, by omega⟩
  · exact hif _ _ _ (fun e => w1_name (h.op1 e).1) hw
  · exact hif _ _ _ (fun _ => w1_itoa _) hw
  · exact hif _ _ _ (fun _ => w1_itoa _) hw
  · exact hif _ _ _ (fun _ => w1_dec _) hw
  · exact hif _ _ _ (fun _ => w1_itoa _) hw
  · unfold placesW at hw
    split at hw
    · cases hw
    · rcases List.mem_append.1 hw with hw | hw
      · obtain ⟨p, _, rfl⟩ := List.mem_map.1 hw; exact w1_plW p
      · rcases List.mem_cons.1 hw with rfl | hw
        · decide
        · obtain ⟨p, _, rfl⟩ := List.mem_map.1 hw; exact w1_plW p
  · unfold toW at hw
    split at hw
    · cases hw
    · rcases List.mem_cons.1 hw with rfl | hw
      · decide
      · obtain ⟨p, _, rfl⟩ := List.mem_map.1 hw; exact w1_itoa p
theorem split_line {x : Mi} (h : Told x) : Lib.split (line x) [32] = lineW x := by
  unfold line
  rw [if_pos ((told_iff x).2 h)]
  exact split_join _ (by unfold lineW; simp) (fun w hw hm => w1_blank (w1_lineW h w hw) 32 hm rfl)
theorem toO_back (z : List Int) (hz : ∀ n ∈ z, index n = true) (ok : Bool) : toO ⟨if z = [] then [] else [58] :: z.map Lib.itoa, ok⟩ = (z, ⟨[], ok⟩) := by
  unfold toO
  by_cases hz0 : z = []
  · subst hz0; rfl
  · rw [if_neg hz0]
    dsimp only
    rw [if_pos (by rfl), List.tail_cons, numsGo_back z ok hz]
theorem places_back (x : Mi) (hd : ∀ p ∈ x.d, index p.n = true) (hs : ∀ p ∈ x.s, index p.n = true) (ok : Bool) :
    (spotsGo (placesW x ++ toW x) ok).1 = x.d ∧ srcO (spotsGo (placesW x ++ toW x) ok).2 = (x.s, ⟨toW x, ok⟩) := by
  have ht : ∀ w, (toW x).head? = some w → isPl w = false := by
    intro w hw
    unfold toW at hw
    split at hw
    · cases hw
    · cases hw; decide
  unfold placesW
  split
  · rename_i h
    have := spotsGo_back ht [] ok (by simp)
    rw [List.map_nil, List.nil_append] at this
    rw [List.nil_append, this, h.1, h.2]
    refine ⟨rfl, ?_⟩
    unfold srcO
    rw [if_neg]
    intro e
    dsimp only at e
    unfold toW at e
    split at e
    · cases e
    · cases e
  · rw [List.append_assoc, List.cons_append, spotsGo_back (fun w hw => by cases hw; decide) x.d ok hd]
    refine ⟨rfl, ?_⟩
    unfold srcO
    dsimp only
    rw [if_pos (by rfl), List.tail_cons, spotsGo_back ht x.s ok hs]
theorem insF_back {x : Mi} (h : Told x) (hn : x.n < 18446744073709551616) (ok : Bool) : insF x.kind ⟨opsW (row x.kind) x ++ (placesW x ++ toW x), ok⟩ = (x, ⟨[], ok⟩) := by
  unfold insF opsW
  simp only [List.append_assoc]
  rw [optOp_back _ ok h.op0 h.op1]
  dsimp only
  rw [optNum_back _ ok h.a0 (fun _ => h.a1)]
  dsimp only
  rw [optNum_back _ ok h.b0 (fun _ => h.b1)]
  dsimp only
  rw [optN_back _ ok h.n0 hn]
  dsimp only
  rw [optNum_back _ ok h.t0 (fun _ => by have := h.t1; unfold index within; simp; omega)]
  dsimp only
  obtain ⟨e1, e2⟩ := places_back x h.d h.s ok
  rw [e1, e2]
  dsimp only
  unfold toW
  rw [toO_back x.tos h.tos ok]
theorem insP_back {x : Mi} (h : told x = true) (hn : x.n < 18446744073709551616) : insP (line x) = (x, true) := by
  have H := (told_iff x).1 h
  obtain ⟨k, hk, hk2⟩ := H.kind
  have e : kindO ((lineW x).headD []) = x.kind := by
    show kindO (row x.kind).w = x.kind
    rw [hk]
    exact kind_row ⟨k, by omega⟩
  have et : (lineW x).tail = opsW (row x.kind) x ++ (placesW x ++ toW x) := rfl
  unfold insP
  rw [split_line H, e, et, insF_back H hn, if_neg (by omega)]
  simp
theorem split_nil : Lib.split [] [32] = [[]] := split_no (index_miss (by simp))
theorem insP_some {s : W} (h : (insP s).2 = true) : told (insP s).1 = true ∧ line (insP s).1 = s := by
  have hs : s ≠ [] := fun e => by
    subst e
    unfold insP at h
    rw [split_nil, List.headD_cons, kind_nil] at h
    exact absurd h (by decide)
  unfold insP at h ⊢
  split
  · rename_i hk; rw [if_pos hk] at h; cases h
  · rename_i hk
    rw [if_neg hk] at h
    simp only [Bool.and_eq_true, beq_iff_eq] at h
    obtain ⟨h1, h2, h3⟩ := h
    dsimp only
    refine ⟨?_, h3⟩
    rcases ht : told (insF (kindO ((Lib.split s [32]).headD [])) ⟨(Lib.split s [32]).tail, true⟩).1 with _ | _
    · exfalso
      unfold line at h3
      rw [ht, if_neg (by decide)] at h3
      exact hs h3.symm
    · rfl
end Go.Proofs.YtadnfekogmjieaaGreatDoor.Mc
set_option linter.unusedVariables false
set_option linter.unusedSimpArgs false
namespace Go.Proofs.YtadnfekogmjieaaGreatDoor.Mc
def lFunc : W := [102, 117, 110, 99, 32]
def lSlots : W := [32, 115, 108, 111, 116, 115, 32]
def lArrow : W := [32, 45, 62, 32]
def valsO (s : W) : List Int × Bool :=
  if s.length < 2 ∨ s.head? ≠ some 40 ∨ s.getLast? ≠ some 41 then ([], false)
  else if s = [40, 41] then ([], true)
  else valsP (Lib.split ((s.take (s.length - 1)).drop 1) [44, 32])
def cutA (s : W) : W × W × Bool := Lib.cut (Lib.trimPrefix s lFunc) lSlots
def cutB (s : W) : W × W × Bool := Lib.cut (cutA s).1 lArrow
def headerP (s : W) : ((List Int × List Int) × Int) × Bool :=
  if Lib.hasPrefix s lFunc && ((cutA s).2.2 && (cutB s).2.2) then
    ((((valsO (cutB s).1).1, (valsO (cutB s).2.1).1), (natP (cutA s).2.1).1),
      (((valsO (cutB s).1).2 && (valsO (cutB s).2.1).2) && (natP (cutA s).2.1).2) && (head (valsO (cutB s).1).1 (valsO (cutB s).2.1).1 (natP (cutA s).2.1).1 == s))
  else ((([], []), 0), false)
theorem index_two {c d : UInt8} {t u v : W} (h : d ∉ u) (hcd : d ≠ c) : Lib.index (u ++ ((c :: d :: t) ++ v)) (c :: d :: t) = (u.length : Int) := by
  refine Lib.index_first (by simp) ?_ ?_
  · unfold Lib.occAt
    rw [List.drop_left]
    exact List.isPrefixOf_iff_prefix.2 (List.prefix_append _ _)
  · intro j hj
    rcases ho : Lib.occAt (u ++ ((c :: d :: t) ++ v)) (c :: d :: t) j with _ | _
    · rfl
    · exfalso
      unfold Lib.occAt at ho
      obtain ⟨r, hr⟩ := List.isPrefixOf_iff_prefix.1 ho
      have h1 : (u ++ ((c :: d :: t) ++ v))[j + 1]? = some d := by
        rw [← List.getElem?_drop, ← hr]; rfl
      by_cases h2 : j + 1 < u.length
      · rw [List.getElem?_append_left h2] at h1
        exact h (List.mem_of_getElem? h1)
      · have h3 : j + 1 = u.length := by omega
        rw [h3, List.getElem?_append_right (Nat.le_refl _), Nat.sub_self] at h1
        simp at h1
        exact hcd h1.symm
theorem cut_hit {s u v sep : W} (hs : s = u ++ (sep ++ v)) (h : Lib.index s sep = (u.length : Int)) : Lib.cut s sep = (u, v, true) := by
  subst hs
  unfold Lib.cut
  rw [h, if_pos (by omega), Int.toNat_natCast, List.take_left, ← List.append_assoc, List.drop_left' (by simp)]
theorem right_val {l : List Int} (h : Ty.right l = true) : l.all Ty.val = true ∧ l.length ≤ 8 := by
  unfold Ty.right at h
  simp only [Bool.and_eq_true, decide_eq_true_eq] at h
  exact ⟨h.2, h.1⟩
theorem name_chars {v : Int} (h : Ty.val v = true) : 115 ∉ Ty.name v ∧ 45 ∉ Ty.name v ∧ 10 ∉ Ty.name v := by
  rcases Ty.five v with rfl | rfl | rfl | rfl | h'
  all_goals first | decide | (rw [Ty.val_no h'] at h; cases h)
theorem list_no {l : List Int} (h : l.all Ty.val = true) (b : UInt8) (h1 : b ∉ ([40, 41, 44, 32] : W)) (h2 : ∀ v, Ty.val v = true → b ∉ Ty.name v) : b ∉ Ty.list l := fun hm => by
  unfold Ty.list at hm
  rw [shown_name h] at hm
  simp only [List.mem_cons, List.mem_append, List.not_mem_nil, or_false] at hm h1
  rcases hm with hm | hm | hm
  · exact h1 (.inl hm)
  · rcases join_mem hm with hm | ⟨x, hx, hb⟩
    · simp only [List.mem_cons, List.not_mem_nil, or_false] at hm
      exact h1 (hm.elim (fun e => .inr (.inr (.inl e))) (fun e => .inr (.inr (.inr e))))
    · obtain ⟨v, hv, rfl⟩ := List.mem_map.1 hx
      exact h2 v (List.all_eq_true.1 h v hv) hb
  · exact h1 (.inr (.inl hm))
theorem join_names_ne {l : List Int} (h : l.all Ty.val = true) (hl : l ≠ []) : Lib.join (l.map Ty.name) [44, 32] ≠ [] := by
  rcases l with _ | ⟨v, l⟩
  · exact absurd rfl hl
  · have := (name_facts (List.all_eq_true.1 h v (by simp))).2.2.2.2.2
    rw [List.map_cons, Lib.join_cons]
    simp [this]
theorem valsO_back {l : List Int} (h : l.all Ty.val = true) : valsO (Ty.list l) = (l, true) := by
  obtain ⟨J, hJ⟩ : ∃ J, Lib.join (l.map Ty.name) [44, 32] = J := ⟨_, rfl⟩
  have e : Ty.list l = 40 :: (J ++ [41]) := by unfold Ty.list; rw [shown_name h, hJ]
  unfold valsO
  rw [e, if_neg (by
    simp only [not_or, Decidable.not_not]
    refine ⟨by simp, rfl, ?_⟩
    rw [← List.cons_append, List.getLast?_append]; rfl)]
  by_cases hl : l = []
  · subst hl
    have : J = [] := by rw [← hJ]; rfl
    subst this
    rfl
  · have hne := join_names_ne h hl
    rw [hJ] at hne
    rw [if_neg (by
      intro e2
      injection e2 with _ e2
      rcases J with _ | ⟨a, J⟩
      · exact hne rfl
      · have := congrArg List.length e2; simp at this)]
    have e3 : ((40 :: (J ++ [41])).take ((40 :: (J ++ [41])).length - 1)).drop 1 = J := by
      rw [show (40 :: (J ++ [41])).length - 1 = (40 :: J).length by simp, ← List.cons_append, List.take_left]; rfl
    rw [e3, ← hJ, split_join _ (by simp [hl]) (fun x hx => by
      obtain ⟨z, hz, rfl⟩ := List.mem_map.1 hx
      exact (name_facts (List.all_eq_true.1 h z hz)).2.2.2.1), valsP_back h]
theorem head_may {ps rs : List Int} {slots : Int} (h : head ps rs slots ≠ []) : (Ty.right ps = true ∧ Ty.right rs = true ∧ index slots = true) ∧ head ps rs slots = lFunc ++ (Ty.text ps rs ++ (lSlots ++ Lib.itoa slots)) := by
  unfold head at h ⊢
  split
  · rename_i h1
    simp only [Bool.and_eq_true] at h1
    exact ⟨⟨h1.1.1, h1.1.2, h1.2⟩, rfl⟩
  · rename_i h1; rw [if_neg h1] at h; exact absurd rfl h
theorem headerP_back {ps rs : List Int} {slots : Int} (h : head ps rs slots ≠ []) : headerP (head ps rs slots) = (((ps, rs), slots), true) := by
  obtain ⟨⟨h1, h2, h3⟩, e⟩ := head_may h
  have v1 := (right_val h1).1
  have v2 := (right_val h2).1
  obtain ⟨a1, a2⟩ := trimP_app lFunc (Ty.text ps rs ++ (lSlots ++ Lib.itoa slots))
  have n1 : 115 ∉ Ty.text ps rs := by
    unfold Ty.text
    simp only [List.mem_append, not_or]
    exact ⟨list_no v1 _ (by decide) (fun v hv => (name_chars hv).1), by decide, list_no v2 _ (by decide) (fun v hv => (name_chars hv).1)⟩
  have n2 : 45 ∉ Ty.list ps := list_no v1 _ (by decide) (fun v hv => (name_chars hv).2.1)
  have c1 : cutA (head ps rs slots) = (Ty.text ps rs, Lib.itoa slots, true) := by
    unfold cutA
    rw [e, a2]
    exact cut_hit rfl (index_two n1 (by decide))
  have c2 : cutB (head ps rs slots) = (Ty.list ps, Ty.list rs, true) := by
    unfold cutB
    rw [c1]
    exact cut_hit rfl (index_two n2 (by decide))
  have p1 : Lib.hasPrefix (head ps rs slots) lFunc = true := by rw [e]; exact a1
  unfold headerP
  rw [c1, c2, p1, if_pos (by rfl)]
  dsimp only
  rw [valsO_back v1, valsO_back v2, natP_itoa h3]
  simp
theorem headerP_some {s : W} (h : (headerP s).2 = true) : head (headerP s).1.1.1 (headerP s).1.1.2 (headerP s).1.2 = s ∧ s ≠ [] := by
  unfold headerP at h ⊢
  split
  · rename_i h1
    rw [if_pos h1] at h
    dsimp only at h ⊢
    simp only [Bool.and_eq_true, beq_iff_eq] at h h1
    refine ⟨h.2, fun e => ?_⟩
    rw [e] at h1
    exact absurd h1.1 (by decide)
  · rename_i h1; rw [if_neg h1] at h; cases h
def mf0 : Mf := ⟨[], [], 0, []⟩
def addI (f : Mf) (x : Mi) : Mf := ⟨f.ps, f.rs, f.slots, f.code ++ [x]⟩
def runP : Nat → Mf → List W → Mf × Int × Int
  | _, _, [] => (mf0, 1, 4)
  | i, f, [w] => if w = [] then (f, 0, 0) else (mf0, (i : Int), 4)
  | i, f, w :: u :: l => if (insP w).2 then runP (i + 1) (addI f (insP w).1) (u :: l) else (mf0, (i : Int), 4)
def mfH (h : (List Int × List Int) × Int) : Mf := ⟨h.1.1, h.1.2, h.2, []⟩
def parseO (s : W) : Mf × Int × Int :=
  if (headerP ((Lib.split s [10]).headD [])).2 = true ∧ (Lib.split s [10]).length ≠ 1 then runP 2 (mfH (headerP ((Lib.split s [10]).headD [])).1) (Lib.split s [10]).tail else (mf0, 1, 4)
/-- What a function needs to be printed. -/
def May (f : Mf) : Prop := head f.ps f.rs f.slots ≠ [] ∧ ∀ x ∈ f.code, told x = true
theorem line_ne {x : Mi} (h : told x = true) : line x ≠ [] := by
  have H := (told_iff x).1 h
  have := w1_ne (w1_lineW H (row x.kind).w (by unfold lineW; simp))
  unfold line
  rw [if_pos h]
  unfold lineW
  rw [Lib.join_cons]
  simp [this]
theorem line_no {x : Mi} (h : told x = false) : line x = [] := by unfold line; rw [h]; rfl
theorem printGo_some : ∀ (l : List Mi) (t : W), printGo l = some t → (∀ x ∈ l, told x = true) ∧ t = Lib.join (l.map line ++ [[]]) [10]
  | [], t, h => by cases h; exact ⟨by simp, rfl⟩
  | x :: l, t, h => by
    unfold printGo at h
    split at h
    · cases h
    · rename_i h1
      obtain ⟨u, hu, rfl⟩ := Option.map_eq_some_iff.1 h
      obtain ⟨a, rfl⟩ := printGo_some l u hu
      refine ⟨fun y hy => ?_, ?_⟩
      · rcases List.mem_cons.1 hy with rfl | hy
        · rcases ht : told y with _ | _
          · exact absurd (line_no ht) h1
          · rfl
        · exact a y hy
      · rw [List.map_cons, List.cons_append, Lib.join_cons, joinTail_ne _ (by simp)]; rfl
theorem printGo_may : ∀ (l : List Mi), (∀ x ∈ l, told x = true) → ∃ t, printGo l = some t
  | [], _ => ⟨[], rfl⟩
  | x :: l, h => by
    obtain ⟨t, ht⟩ := printGo_may l (fun y hy => h y (by simp [hy]))
    unfold printGo
    rw [if_neg (line_ne (h x (by simp))), ht]
    exact ⟨_, rfl⟩
theorem print_may (f : Mf) : print f ≠ [] ↔ May f := by
  unfold print May
  split
  · rename_i h; exact ⟨fun h' => absurd rfl h', fun h' => absurd h h'.1⟩
  · rename_i h
    constructor
    · intro h2
      rcases hg : printGo f.code with _ | t
      · rw [hg] at h2; exact absurd rfl h2
      · exact ⟨h, (printGo_some _ _ hg).1⟩
    · rintro ⟨-, h2⟩
      obtain ⟨t, ht⟩ := printGo_may _ h2
      rw [ht]; simp
theorem print_lines {f : Mf} (h : May f) : print f = Lib.join (head f.ps f.rs f.slots :: (f.code.map line ++ [[]])) [10] := by
  obtain ⟨t, ht⟩ := printGo_may _ h.2
  unfold print
  rw [if_neg h.1, ht]
  dsimp only
  rw [(printGo_some _ _ ht).2, Lib.join_cons, joinTail_ne _ (by simp)]; rfl
theorem line_no10 {x : Mi} (h : told x = true) : 10 ∉ line x := fun hm => by
  have H := (told_iff x).1 h
  unfold line at hm
  rw [if_pos h] at hm
  rcases join_mem hm with hm | ⟨w, hw, hb⟩
  · revert hm; decide
  · have := w1_mem (w1_lineW H w hw) 10 hb
    revert this; decide
theorem itoa_no10 (z : Int) : 10 ∉ Lib.itoa z := fun hm => by
  have := w1_mem (w1_itoa z) 10 hm
  revert this; decide
theorem head_no10 {ps rs : List Int} {slots : Int} (h : head ps rs slots ≠ []) : 10 ∉ head ps rs slots := by
  obtain ⟨⟨h1, h2, h3⟩, e⟩ := head_may h
  rw [e]
  unfold Ty.text
  simp only [List.mem_append, not_or]
  exact ⟨by decide, ⟨list_no (right_val h1).1 _ (by decide) (fun v hv => (name_chars hv).2.2), by decide, list_no (right_val h2).1 _ (by decide) (fun v hv => (name_chars hv).2.2)⟩, by decide, itoa_no10 _⟩
theorem split_print {f : Mf} (h : May f) : Lib.split (print f) [10] = head f.ps f.rs f.slots :: (f.code.map line ++ [[]]) := by
  rw [print_lines h]
  refine split_join _ (by simp) fun w hw => ?_
  rcases List.mem_cons.1 hw with rfl | hw
  · exact head_no10 h.1
  · rcases List.mem_append.1 hw with hw | hw
    · obtain ⟨x, hx, rfl⟩ := List.mem_map.1 hw; exact line_no10 (h.2 x hx)
    · rw [List.mem_singleton.1 hw]; simp
theorem run_back : ∀ (l : List Mi) (i : Nat) (f : Mf), (∀ x ∈ l, told x = true ∧ x.n < 18446744073709551616) → runP i f (l.map line ++ [[]]) = (⟨f.ps, f.rs, f.slots, f.code ++ l⟩, 0, 0)
  | [], i, f, _ => by rw [List.map_nil, List.nil_append, runP, if_pos rfl, List.append_nil]
  | x :: l, i, f, h => by
    obtain ⟨u, r, hr⟩ : ∃ u r, l.map line ++ [[]] = u :: r := List.exists_cons_of_ne_nil (by simp)
    obtain ⟨h1, h2⟩ := h x (by simp)
    rw [List.map_cons, List.cons_append, hr, runP, insP_back h1 h2, if_pos rfl, ← hr, run_back l (i + 1) _ (fun y hy => h y (by simp [hy]))]
    simp [addI]
theorem parse_back {f : Mf} (h : May f) (hn : ∀ x ∈ f.code, x.n < 18446744073709551616) : parseO (print f) = (f, 0, 0) := by
  unfold parseO
  rw [split_print h, List.headD_cons, List.tail_cons, headerP_back h.1, if_pos ⟨rfl, by simp⟩, run_back _ _ _ (fun x hx => ⟨h.2 x hx, hn x hx⟩)]
  rfl
theorem insF_n (k : Int) (r : Rs) : (insF k r).1.n < 18446744073709551616 := by
  unfold insF optN
  dsimp only
  split
  · exact puint_in _
  · simp
theorem insP_n (s : W) : (insP s).1.n < 18446744073709551616 := by
  unfold insP
  split
  · simp [mi0]
  · exact insF_n _ _
theorem run_some : ∀ (L : List W) (i : Nat) (f : Mf), 1 ≤ i → (∃ l : List Mi, runP i f L = (⟨f.ps, f.rs, f.slots, f.code ++ l⟩, 0, 0) ∧ L = l.map line ++ [[]] ∧ ∀ x ∈ l, (told x = true ∧ x.n < 18446744073709551616) ∧ ∃ s ∈ L, x = (insP s).1) ∨ ∃ k : Nat, 1 ≤ k ∧ k ≤ i + L.length ∧ runP i f L = (mf0, (k : Int), 4)
  | [], i, f, hi => .inr ⟨1, by omega, by omega, rfl⟩
  | [w], i, f, hi => by
    rw [runP]
    split
    · rename_i h
      subst h
      exact .inl ⟨[], by simp, rfl, by simp⟩
    · exact .inr ⟨i, hi, by omega, rfl⟩
  | w :: u :: L, i, f, hi => by
    rw [runP]
    split
    · rename_i h
      obtain ⟨h1, h2⟩ := insP_some h
      rcases run_some (u :: L) (i + 1) (addI f (insP w).1) (by omega) with ⟨l, a, b, c⟩ | ⟨k, a, b, c⟩
      · refine .inl ⟨(insP w).1 :: l, ?_, ?_, ?_⟩
        · rw [a]; simp [addI]
        · rw [b, List.map_cons, h2]; rfl
        · intro x hx
          rcases List.mem_cons.1 hx with rfl | hx
          · exact ⟨⟨h1, insP_n w⟩, w, by simp, rfl⟩
          · obtain ⟨c1, s, c2, c3⟩ := c x hx
            exact ⟨c1, s, List.mem_cons_of_mem _ c2, c3⟩
      · exact .inr ⟨k, a, by simp at b ⊢; omega, c⟩
    · exact .inr ⟨i, hi, by omega, rfl⟩
/-- What Parse gives: a printable function whose text was read, or the fault. -/
theorem parse_some (s : W) : (∃ f : Mf, parseO s = (f, 0, 0) ∧ May f ∧ print f = s ∧ (∀ x ∈ f.code, x.n < 18446744073709551616)) ∨ ∃ k : Nat, 1 ≤ k ∧ k ≤ 2 + (Lib.split s [10]).length ∧ parseO s = (mf0, (k : Int), 4) := by
  obtain ⟨j1, j2⟩ := join_split [10] (by simp) s.length s (Nat.le_refl _)
  obtain ⟨w, L, hL⟩ := List.exists_cons_of_ne_nil j2
  unfold parseO
  rw [hL, List.headD_cons, List.tail_cons]
  split
  · rename_i h
    obtain ⟨h1, h2⟩ := headerP_some h.1
    rcases run_some L 2 (mfH (headerP w).1) (by omega) with ⟨l, a, b, c⟩ | ⟨k, a, b, c⟩
    · have hm : May ⟨(headerP w).1.1.1, (headerP w).1.1.2, (headerP w).1.2, l⟩ := ⟨by rw [h1]; exact h2, fun x hx => (c x hx).1.1⟩
      refine .inl ⟨_, a, ?_, ?_, ?_⟩
      · exact hm
      · show print ⟨(headerP w).1.1.1, (headerP w).1.1.2, (headerP w).1.2, l⟩ = s
        rw [print_lines hm]
        dsimp only
        rw [h1, ← b, ← hL, j1]
      · exact fun x hx => (c x hx).1.2
    · exact .inr ⟨k, a, by simp at b ⊢; omega, c⟩
  · exact .inr ⟨1, by omega, by omega, rfl⟩
end Go.Proofs.YtadnfekogmjieaaGreatDoor.Mc
set_option linter.unusedVariables false
set_option linter.unusedSimpArgs false
namespace Go.Proofs.YtadnfekogmjieaaGreatDoor.Mc
/-! Cutting at a byte. -/
def cutsGo (c : UInt8) : W → W → List W
  | cur, [] => [cur]
  | cur, b :: t => if b = c then cur :: cutsGo c [] t else cutsGo c (cur ++ [b]) t
def cuts (c : UInt8) (s : W) : List W := cutsGo c [] s
theorem cutsGo_ne (c : UInt8) (s : W) : ∀ cur : W, cutsGo c cur s ≠ [] := by
  induction s with
  | nil => intro cur; simp [cutsGo]
  | cons b s ih => intro cur; unfold cutsGo; split <;> simp [ih]
theorem join_cutsGo (c : UInt8) (s : W) : ∀ cur : W, Lib.join (cutsGo c cur s) [c] = cur ++ s := by
  induction s with
  | nil => intro cur; simp [cutsGo, Lib.join_one]
  | cons b s ih =>
    intro cur
    unfold cutsGo
    split
    · rename_i hb
      subst hb
      rw [Lib.join_cons, joinTail_ne _ (cutsGo_ne b s []), ih]
      simp
    · rw [ih]; simp
theorem cutsGo_mem (c : UInt8) (s : W) : ∀ cur : W, c ∉ cur → ∀ u ∈ cutsGo c cur s, c ∉ u := by
  induction s with
  | nil => intro cur h u hu; rw [cutsGo, List.mem_singleton] at hu; rw [hu]; exact h
  | cons b s ih =>
    intro cur h u hu
    unfold cutsGo at hu
    split at hu
    · rcases List.mem_cons.1 hu with rfl | hu
      · exact h
      · exact ih [] (by simp) u hu
    · rename_i hb
      exact ih (cur ++ [b]) (by simp only [List.mem_append, List.mem_singleton, not_or]; exact ⟨h, fun e => hb e.symm⟩) u hu
theorem cuts_split (c : UInt8) (s : W) : cuts c s = Lib.split s [c] := by
  have h := split_join (c := c) (t := []) (cutsGo c [] s) (cutsGo_ne c s []) (cutsGo_mem c s [] (by simp))
  rw [join_cutsGo, List.nil_append] at h
  exact h.symm
/-! Numbers. -/
def rnum (w : W) : Int := if (Ltr.numF w 64).2 = 0 then (Ltr.numF w 64).1 else 0
def toI (z : Int) : Int := IntKind.i64.wrap z
theorem rnum_in (w : W) : 0 ≤ rnum w ∧ rnum w < 18446744073709551616 := by
  unfold rnum
  split
  · unfold Ltr.numF
    rw [if_neg (by omega)]
    have h := Ltr.magR_lt (Ltr.mag (Ltr.unsig w))
    unfold Ltr.numR
    split
    · simp
    · split
      · simp
      · split
        · have e : (2 : Nat) ^ (64 : Int).toNat = 18446744073709551616 := by decide
          dsimp only
          rw [e]
          exact ⟨by omega, by have := Nat.mod_lt ((18446744073709551616 - (Ltr.magR (Ltr.mag (Ltr.unsig w))).1) % 18446744073709551616) (show 0 < 18446744073709551616 by omega); omega⟩
        · dsimp only; omega
  · omega
theorem rnum_dec {n : Nat} (h : n < 18446744073709551616) : rnum (Lib.decDigits n) = (n : Int) := by
  have e : Ltr.numF (Lib.decDigits n) 64 = ((n : Int), 0) := by
    rw [Ltr.num_dec n h 64 (by omega) (by omega), if_neg]
    have : (2 : Nat) ^ (64 : Int).toNat = 18446744073709551616 := by decide
    omega
  unfold rnum
  rw [e]; rfl
theorem toI_small {n : Nat} (h : n < 9223372036854775808) : toI (n : Int) = (n : Int) := by
  unfold toI IntKind.wrap
  simp [IntKind.bits, IntKind.signed]
  omega
theorem rnum_itoa {z : Int} (h : index z = true) : toI (rnum (Lib.itoa z)) = z := by
  obtain ⟨n, rfl, hn⟩ := index_nat h
  rw [itoa_nat, rnum_dec (by omega), toI_small (by omega)]
/-! An instruction. -/
def kindRGo (w : W) : Nat → List Rw → Int
  | _, [] => -1
  | i, r :: l => if r.w = w then (i : Int) else kindRGo w (i + 1) l
def kindR (w : W) : Int := kindRGo w 0 rws
theorem kindRGo_cases (w : W) : ∀ (l : List Rw) (i : Nat), kindRGo w i l = -1 ∨ ∃ j : Nat, j < l.length ∧ kindRGo w i l = ((i + j : Nat) : Int)
  | [], i => .inl rfl
  | r :: l, i => by
    unfold kindRGo
    split
    · exact .inr ⟨0, by simp, by simp⟩
    · rcases kindRGo_cases w l (i + 1) with h | ⟨j, h1, h2⟩
      · exact .inl h
      · exact .inr ⟨j + 1, by simp; omega, by rw [h2]; congr 1; omega⟩
theorem kindR_cases (w : W) : kindR w = -1 ∨ ∃ j : Nat, j ≤ 23 ∧ kindR w = (j : Int) := by
  rcases kindRGo_cases w rws 0 with h | ⟨j, h1, h2⟩
  · exact .inl h
  · exact .inr ⟨j, by rw [rws_len] at h1; omega, by unfold kindR; rw [h2]; simp⟩
set_option maxRecDepth 100000 in
theorem kindR_row : ∀ k : Fin 24, kindR (row ((k.val : Nat) : Int)).w = ((k.val : Nat) : Int) := by decide +kernel
def rOp (b : Bool) (l : List W) : Int × List W := if b then ((opFind (l.headD [])).1, l.tail) else (0, l)
def rNum (b : Bool) (l : List W) : Int × List W := if b then (toI (rnum (l.headD [])), l.tail) else (0, l)
def rN (b : Bool) (l : List W) : Nat × List W := if b then ((rnum (l.headD [])).toNat, l.tail) else (0, l)
def plR (w : W) : Pl := ⟨w.head? == some 115, toI (rnum w.tail)⟩
/-- The rest of a line: at an equals sign the sources begin, at a colon the targets. -/
def restR : List W → Bool → Bool → List Pl → List Pl → List Int → Option (List Pl × List Pl × List Int)
  | [], _, _, d, s, t => some (d, s, t)
  | w :: l, tg, dst, d, s, t =>
    if w = [61] then restR l tg false d s t
    else if w = [58] then restR l true dst d s t
    else if tg then restR l tg dst d s (t ++ [toI (rnum w)])
    else if w.length < 2 then none
    else if dst then restR l tg dst (d ++ [plR w]) s t
    else restR l tg dst d (s ++ [plR w]) t
def readF (k : Int) (l : List W) : Option Mi :=
  let o := rOp (row k).op l
  let a := rNum (row k).a o.2
  let b := rNum (row k).b a.2
  let n := rN (row k).n b.2
  let t := rNum (row k).t n.2
  match restR t.2 false true [] [] [] with
  | none => none
  | some z => some ⟨k, o.1, a.1, b.1, n.1, z.1, z.2.1, z.2.2, t.1⟩
def rinsP (s : W) : Mi × Bool :=
  if kindR ((cuts 32 s).headD []) < 0 then (mi0, false) else
  match readF (kindR ((cuts 32 s).headD [])) (cuts 32 s).tail with
  | none => (mi0, false)
  | some x => (x, told x && (line x == s))
theorem rOp_back {b : Bool} {op : Int} (l : List W) (h0 : b = false → op = 0) (h1 : b = true → Opc.known op = true ∧ op ≠ 28) : rOp b ((if b then [Opc.name op] else []) ++ l) = (op, l) := by
  rcases b with _ | _
  · simp [rOp, h0]
  · obtain ⟨h2, h3⟩ := h1 rfl
    simp [rOp, opFind_name h2 h3]
theorem rNum_back {b : Bool} {z : Int} (l : List W) (h0 : b = false → z = 0) (h1 : index z = true) : rNum b ((if b then [Lib.itoa z] else []) ++ l) = (z, l) := by
  rcases b with _ | _
  · simp [rNum, h0]
  · simp [rNum, rnum_itoa h1]
theorem rN_back {b : Bool} {n : Nat} (l : List W) (h0 : b = false → n = 0) (h1 : n < 18446744073709551616) : rN b ((if b then [Lib.decDigits n] else []) ++ l) = (n, l) := by
  rcases b with _ | _
  · simp [rN, h0]
  · simp [rN, rnum_dec h1]
theorem plW_ways (p : Pl) : plW p ≠ [61] ∧ plW p ≠ [58] ∧ ¬ (plW p).length < 2 := by
  have := List.length_pos_iff.2 (itoa_ne (z := p.n))
  unfold plW
  refine ⟨fun e => ?_, fun e => ?_, by simp; omega⟩
  all_goals (have := congrArg List.length e; simp at this; exact itoa_ne this)
theorem plR_plW {p : Pl} (h : index p.n = true) : plR (plW p) = p := by
  unfold plR
  rw [show (plW p).tail = Lib.itoa p.n from rfl, rnum_itoa h]
  obtain ⟨b, n⟩ := p
  unfold plW
  rcases b with _ | _ <;> rfl
theorem rest_dst : ∀ (z : List Pl) (l : List W) (d s : List Pl) (t : List Int), (∀ p ∈ z, index p.n = true) → restR (z.map plW ++ l) false true d s t = restR l false true (d ++ z) s t
  | [], l, d, s, t, _ => by simp
  | p :: z, l, d, s, t, h => by
    obtain ⟨a, b, c⟩ := plW_ways p
    rw [List.map_cons, List.cons_append, restR, if_neg a, if_neg b, if_neg (by decide), if_neg c, if_pos rfl, plR_plW (h p (by simp)), rest_dst z l _ s t (fun q hq => h q (by simp [hq]))]
    simp
theorem rest_src : ∀ (z : List Pl) (l : List W) (d s : List Pl) (t : List Int), (∀ p ∈ z, index p.n = true) → restR (z.map plW ++ l) false false d s t = restR l false false d (s ++ z) t
  | [], l, d, s, t, _ => by simp
  | p :: z, l, d, s, t, h => by
    obtain ⟨a, b, c⟩ := plW_ways p
    rw [List.map_cons, List.cons_append, restR, if_neg a, if_neg b, if_neg (by decide), if_neg c, if_neg (by decide), plR_plW (h p (by simp)), rest_src z l d _ t (fun q hq => h q (by simp [hq]))]
    simp
theorem itoa_ways (z : Int) : Lib.itoa z ≠ [61] ∧ Lib.itoa z ≠ [58] := by
  have hi : Lib.itoa z = if z < 0 then 45 :: Lib.decDigits z.natAbs else Lib.decDigits z.toNat := rfl
  rw [hi]
  split
  · exact ⟨fun e => (by cases e), fun e => (by cases e)⟩
  · refine ⟨fun e => ?_, fun e => ?_⟩
    · have := dec_isD z.toNat 61 (by rw [e]; simp)
      revert this; decide
    · have := dec_isD z.toNat 58 (by rw [e]; simp)
      revert this; decide
theorem rest_to : ∀ (z : List Int) (dst : Bool) (d s : List Pl) (t : List Int), (∀ p ∈ z, index p = true) → restR (z.map Lib.itoa) true dst d s t = some (d, s, t ++ z)
  | [], dst, d, s, t, _ => by simp [restR]
  | n :: z, dst, d, s, t, h => by
    obtain ⟨a, b⟩ := itoa_ways n
    rw [List.map_cons, restR, if_neg a, if_neg b, if_pos rfl, rnum_itoa (h n (by simp)), rest_to z dst d s _ (fun q hq => h q (by simp [hq]))]
    simp
theorem rest_toW (z : List Int) (dst : Bool) (d s : List Pl) (h : ∀ p ∈ z, index p = true) : restR (if z = [] then [] else [58] :: z.map Lib.itoa) false dst d s [] = some (d, s, z) := by
  by_cases hz : z = []
  · subst hz; rfl
  · rw [if_neg hz, restR, if_neg (by decide), if_pos rfl, rest_to z dst d s [] h]; rfl
theorem rest_back (x : Mi) (hd : ∀ p ∈ x.d, index p.n = true) (hs : ∀ p ∈ x.s, index p.n = true) (ht : ∀ p ∈ x.tos, index p = true) : restR (placesW x ++ toW x) false true [] [] [] = some (x.d, x.s, x.tos) := by
  unfold placesW toW
  split
  · rename_i h
    rw [List.nil_append, rest_toW _ _ _ _ ht, h.1, h.2]
  · rw [List.append_assoc, List.cons_append, rest_dst x.d _ _ _ _ hd, restR, if_pos rfl, rest_src x.s _ _ _ _ hs, rest_toW _ _ _ _ ht]; rfl
theorem readF_back {x : Mi} (h : Told x) (hn : x.n < 18446744073709551616) : readF x.kind (opsW (row x.kind) x ++ (placesW x ++ toW x)) = some x := by
  unfold readF opsW
  simp only [List.append_assoc]
  rw [rOp_back _ h.op0 h.op1]
  dsimp only
  rw [rNum_back _ h.a0 h.a1]
  dsimp only
  rw [rNum_back _ h.b0 h.b1]
  dsimp only
  rw [rN_back _ h.n0 hn]
  dsimp only
  rw [rNum_back _ h.t0 (by have := h.t1; unfold index within; simp; omega)]
  dsimp only
  rw [rest_back x h.d h.s h.tos]
theorem rinsP_back {x : Mi} (h : told x = true) (hn : x.n < 18446744073709551616) : rinsP (line x) = (x, true) := by
  have H := (told_iff x).1 h
  obtain ⟨k, hk, hk2⟩ := H.kind
  have e : kindR ((lineW x).headD []) = x.kind := by
    show kindR (row x.kind).w = x.kind
    rw [hk]
    exact kindR_row ⟨k, by omega⟩
  have et : (lineW x).tail = opsW (row x.kind) x ++ (placesW x ++ toW x) := rfl
  unfold rinsP
  rw [cuts_split, split_line H, e, et, readF_back H hn, if_neg (by omega)]
  simp [h]
theorem rinsP_some {s : W} (h : (rinsP s).2 = true) : told (rinsP s).1 = true ∧ line (rinsP s).1 = s := by
  unfold rinsP at h ⊢
  split
  · rename_i hk; rw [if_pos hk] at h; cases h
  · rename_i hk
    rw [if_neg hk] at h
    rcases hr : readF (kindR ((cuts 32 s).headD [])) (cuts 32 s).tail with _ | x
    · rw [hr] at h; cases h
    · rw [hr] at h
      simpa using h
theorem rinsP_n (s : W) : (rinsP s).1.n < 18446744073709551616 := by
  unfold rinsP
  split
  · simp [mi0]
  · rcases hr : readF (kindR ((cuts 32 s).headD [])) (cuts 32 s).tail with _ | x
    · simp [mi0]
    · dsimp only
      unfold readF at hr
      dsimp only at hr
      split at hr
      · cases hr
      · cases hr
        dsimp only
        unfold rN
        split
        · dsimp only
          have := rnum_in ((rNum (row (kindR ((cuts 32 s).headD []))).b (rNum (row (kindR ((cuts 32 s).headD []))).a (rOp (row (kindR ((cuts 32 s).headD []))).op (cuts 32 s).tail).2).2).2.headD [])
          omega
        · simp
/-- Both readers of an instruction read the same. -/
theorem ins_same (s : W) : (rinsP s).2 = (insP s).2 ∧ ((insP s).2 = true → (rinsP s).1 = (insP s).1) := by
  rcases h : (insP s).2 with _ | _
  · refine ⟨?_, by simp⟩
    rcases h2 : (rinsP s).2 with _ | _
    · rfl
    · obtain ⟨a, b⟩ := rinsP_some h2
      have := insP_back a (rinsP_n s)
      rw [b] at this
      rw [this] at h; cases h
  · obtain ⟨a, b⟩ := insP_some h
    have := rinsP_back a (insP_n s)
    rw [b] at this
    rw [this]; exact ⟨rfl, fun _ => rfl⟩
/-! The first line. -/
def stripF : Nat → W → W
  | 0, w => w
  | n + 1, w => if w.head? = some 40 then stripF n w.tail else if w.getLast? = some 44 ∨ w.getLast? = some 41 then stripF n w.dropLast else w
def strip (w : W) : W := stripF w.length w
def tyR (w : W) : List Int := if (Ty.find (strip w)).2 then [(Ty.find (strip w)).1] else []
def typesR (s : W) : List Int := (cuts 32 s).flatMap tyR
def rheadP (s : W) : ((List Int × List Int) × Int) × Bool :=
  if (cuts 62 s).length = 2 then
    (((typesR ((cuts 62 s).headD []), typesR ((cuts 62 s).tail.headD [])), toI (rnum ((cuts 32 s).getLastD []))),
      head (typesR ((cuts 62 s).headD [])) (typesR ((cuts 62 s).tail.headD [])) (toI (rnum ((cuts 32 s).getLastD []))) == s && !(s == []))
  else ((([], []), 0), false)
theorem strip_shapes {v : Int} (h : Ty.val v = true) : tyR (Ty.name v ++ [44]) = [v] ∧ tyR (Ty.name v ++ [41]) = [v] ∧ tyR (40 :: (Ty.name v ++ [44])) = [v] ∧ tyR (40 :: (Ty.name v ++ [41])) = [v] := by
  rcases Ty.five v with rfl | rfl | rfl | rfl | h'
  all_goals first | decide +kernel | (rw [Ty.val_no h'] at h; cases h)
/-- The words of a list of types. -/
def twT : List Int → List W
  | [] => []
  | [v] => [Ty.name v ++ [41]]
  | v :: u :: l => (Ty.name v ++ [44]) :: twT (u :: l)
def tw : List Int → List W
  | [] => [[40, 41]]
  | v :: l => (40 :: (twT (v :: l)).headD []) :: (twT (v :: l)).tail
theorem twT_ne (v : Int) (l : List Int) : twT (v :: l) ≠ [] := by
  rcases l with _ | ⟨u, l⟩ <;> simp [twT]
theorem join_twT : ∀ (l : List Int), l ≠ [] → Lib.join (twT l) [32] = Lib.join (l.map Ty.name) [44, 32] ++ [41]
  | [], h => absurd rfl h
  | [v], _ => by simp [twT, Lib.join_one]
  | v :: u :: l, _ => by
    have := join_twT (u :: l) (by simp)
    rw [twT, Lib.join_cons, joinTail_ne _ (twT_ne u l), this, List.map_cons (a := v), Lib.join_cons (Ty.name v), joinTail_ne _ (by simp)]
    simp
theorem join_tw {l : List Int} (h : l.all Ty.val = true) : Lib.join (tw l) [32] = Ty.list l := by
  unfold Ty.list
  rw [shown_name h]
  rcases l with _ | ⟨v, l⟩
  · rfl
  · have e := join_twT (v :: l) (by simp)
    obtain ⟨a, r, har⟩ := List.exists_cons_of_ne_nil (twT_ne v l)
    rw [har] at e
    rw [tw, har, List.headD_cons, List.tail_cons, Lib.join_cons, List.cons_append, ← e, Lib.join_cons]
theorem twT_words : ∀ (l : List Int), l.all Ty.val = true → (∀ w ∈ twT l, 32 ∉ w ∧ 62 ∉ w) ∧ (twT l).flatMap tyR = l
  | [], _ => by simp [twT]
  | [v], h => by
    have hv : Ty.val v = true := by simpa using h
    have hn := (name_facts hv).2.2.1
    have h32 : 32 ∉ Ty.name v := fun hm => w1_blank hn 32 hm rfl
    have h62 : 62 ∉ Ty.name v := by rcases Ty.five v with rfl | rfl | rfl | rfl | h' <;> first | decide | (rw [Ty.name_no h']; simp)
    refine ⟨fun w hw => ?_, by simp [twT, (strip_shapes hv).2.1]⟩
    rw [twT, List.mem_singleton] at hw
    subst hw
    simp [h32, h62]
  | v :: u :: l, h => by
    have hv : Ty.val v = true := List.all_eq_true.1 h v (by simp)
    have ht : (u :: l).all Ty.val = true := List.all_eq_true.2 fun z hz => List.all_eq_true.1 h z (List.mem_cons_of_mem _ hz)
    obtain ⟨a, b⟩ := twT_words (u :: l) ht
    have hn := (name_facts hv).2.2.1
    have h32 : 32 ∉ Ty.name v := fun hm => w1_blank hn 32 hm rfl
    have h62 : 62 ∉ Ty.name v := by rcases Ty.five v with rfl | rfl | rfl | rfl | h' <;> first | decide | (rw [Ty.name_no h']; simp)
    refine ⟨fun w hw => ?_, ?_⟩
    · rw [twT, List.mem_cons] at hw
      rcases hw with rfl | hw
      · simp [h32, h62]
      · exact a w hw
    · rw [twT, List.flatMap_cons, (strip_shapes hv).1, b]; rfl
theorem tw_words {l : List Int} (h : l.all Ty.val = true) : (∀ w ∈ tw l, 32 ∉ w ∧ 62 ∉ w) ∧ (tw l).flatMap tyR = l ∧ tw l ≠ [] := by
  rcases l with _ | ⟨v, l⟩
  · exact ⟨by decide, by decide +kernel, by simp [tw]⟩
  · obtain ⟨a, b⟩ := twT_words _ h
    have hv : Ty.val v = true := List.all_eq_true.1 h v (by simp)
    have hs := strip_shapes hv
    rcases l with _ | ⟨u, l⟩
    · rw [twT] at a b
      have a1 := a _ (List.mem_singleton.2 rfl)
      refine ⟨fun w hw => ?_, ?_, by simp [tw]⟩
      · simp only [tw, twT, List.headD_cons, List.tail_cons, List.mem_singleton] at hw
        subst hw
        simp only [List.mem_cons, not_or]
        exact ⟨⟨by decide, a1.1⟩, by decide, a1.2⟩
      · simp [tw, twT, hs.2.2.2]
    · rw [twT] at a b
      have a1 := a _ (List.mem_cons_self ..)
      rw [List.flatMap_cons, hs.1] at b
      refine ⟨fun w hw => ?_, ?_, by simp [tw]⟩
      · simp only [tw, twT, List.headD_cons, List.tail_cons, List.mem_cons] at hw
        rcases hw with rfl | hw
        · simp only [List.mem_cons, not_or]
          exact ⟨⟨by decide, a1.1⟩, by decide, a1.2⟩
        · exact a w (List.mem_cons_of_mem _ hw)
      · rw [tw, twT, List.headD_cons, List.tail_cons, List.flatMap_cons, hs.2.2.1, b]
theorem join_app {c : UInt8} : ∀ (L M : List W), L ≠ [] → M ≠ [] → Lib.join (L ++ M) [c] = Lib.join L [c] ++ c :: Lib.join M [c]
  | [], _, h, _ => absurd rfl h
  | [x], M, _, h => by rw [List.singleton_append, Lib.join_cons, joinTail_ne _ h, Lib.join_one]; rfl
  | x :: y :: L, M, _, h => by
    rw [List.cons_append, Lib.join_cons, joinTail_ne _ (by simp), join_app (y :: L) M (by simp) h, Lib.join_cons x, joinTail_ne _ (by simp)]
    simp
theorem rheadP_back {ps rs : List Int} {slots : Int} (h : head ps rs slots ≠ []) : rheadP (head ps rs slots) = (((ps, rs), slots), true) := by
  obtain ⟨⟨h1, h2, h3⟩, e⟩ := head_may h
  have v1 := (right_val h1).1
  have v2 := (right_val h2).1
  obtain ⟨a1, a2, a3⟩ := tw_words v1
  obtain ⟨b1, b2, b3⟩ := tw_words v2
  obtain ⟨n, hn, hn2⟩ := index_nat h3
  have hi : w1 (Lib.itoa slots) = true := w1_itoa slots
  have i62 : 62 ∉ Lib.itoa slots := by
    rw [hn, itoa_nat]
    intro hm
    have := dec_isD n 62 hm
    revert this; decide
  have i32 : 32 ∉ Lib.itoa slots := fun hm => w1_blank hi 32 hm rfl
  have i1 : tyR (Lib.itoa slots) = [] := by
    have hst : ∀ k, stripF k (Lib.itoa slots) = Lib.itoa slots := by
      intro k
      rcases k with _ | k
      · rfl
      · unfold stripF
        rw [if_neg, if_neg]
        · rw [hn, itoa_nat]
          rintro (h | h)
          · have := dec_isD n 44 (List.mem_of_getLast? h); revert this; decide
          · have := dec_isD n 41 (List.mem_of_getLast? h); revert this; decide
        · rw [hn, itoa_nat]
          intro h
          have := dec_isD n 40 (List.mem_of_head? h); revert this; decide
    unfold tyR strip
    rw [hst]
    have hf : (Ty.find (Lib.itoa slots)).2 = false := by
      rcases hf : (Ty.find (Lib.itoa slots)).2 with _ | _
      · rfl
      · exfalso
        have hnm := find_name hf
        have hv := (find_val hf).1
        have hd : ∀ b ∈ Ty.name (Ty.find (Lib.itoa slots)).1, isD b = true := by
          rw [hnm, hn, itoa_nat]; exact dec_isD n
        rcases Ty.five (Ty.find (Lib.itoa slots)).1 with h' | h' | h' | h' | h'
        all_goals first | (rw [h'] at hd; revert hd; decide) | (rw [Ty.val_no h'] at hv; cases hv)
    rw [hf]; rfl
  have A : Lib.join ([[102, 117, 110, 99]] ++ (tw ps ++ [[45]])) [32] = [102, 117, 110, 99, 32] ++ (Ty.list ps ++ [32, 45]) := by
    rw [join_app _ _ (by simp) (by simp), join_app _ _ a3 (by simp), join_tw v1, Lib.join_one, Lib.join_one]; simp
  have B : Lib.join ([[]] ++ (tw rs ++ [[115, 108, 111, 116, 115], Lib.itoa slots])) [32] = 32 :: (Ty.list rs ++ ([32, 115, 108, 111, 116, 115, 32] ++ Lib.itoa slots)) := by
    rw [join_app _ _ (by simp) (by simp), join_app _ _ b3 (by simp), join_tw v2, Lib.join_one, Lib.join_cons, joinTail_ne _ (by simp), Lib.join_one]; simp
  have C : Lib.join (([[102, 117, 110, 99]] ++ (tw ps ++ [[45, 62]])) ++ (tw rs ++ [[115, 108, 111, 116, 115], Lib.itoa slots])) [32] = head ps rs slots := by
    rw [join_app _ _ (by simp) (by simp [b3]), join_app _ _ (by simp) (by simp), join_app _ _ a3 (by simp), join_app _ _ b3 (by simp), join_tw v1, join_tw v2, Lib.join_one, Lib.join_one, Lib.join_cons, joinTail_ne _ (by simp), Lib.join_one, e]
    unfold Ty.text lFunc lSlots; simp
  have D : Lib.join [[102, 117, 110, 99, 32] ++ (Ty.list ps ++ [32, 45]), 32 :: (Ty.list rs ++ ([32, 115, 108, 111, 116, 115, 32] ++ Lib.itoa slots))] [62] = head ps rs slots := by
    rw [Lib.join_cons, joinTail_ne _ (by simp), Lib.join_one, e]
    unfold Ty.text lFunc lSlots; simp
  have l62 : ∀ l : List Int, l.all Ty.val = true → 62 ∉ Ty.list l := fun l hl => list_no hl _ (by decide) (fun v hv => by
    rcases Ty.five v with rfl | rfl | rfl | rfl | h' <;> first | decide | (rw [Ty.name_no h']; simp))
  have s62 : cuts 62 (head ps rs slots) = [[102, 117, 110, 99, 32] ++ (Ty.list ps ++ [32, 45]), 32 :: (Ty.list rs ++ ([32, 115, 108, 111, 116, 115, 32] ++ Lib.itoa slots))] := by
    rw [cuts_split, ← D]
    refine split_join _ (by simp) fun w hw => ?_
    simp only [List.mem_cons, List.not_mem_nil, or_false] at hw
    rcases hw with rfl | rfl
    · simp only [List.mem_append, not_or]; exact ⟨by decide, l62 _ v1, by decide⟩
    · simp only [List.mem_cons, List.mem_append, not_or]; exact ⟨by decide, l62 _ v2, ⟨by decide, by decide, by decide, by decide, by decide, by decide, by decide, by decide⟩, i62⟩
  have s32 : cuts 32 (head ps rs slots) = ([[102, 117, 110, 99]] ++ (tw ps ++ [[45, 62]])) ++ (tw rs ++ [[115, 108, 111, 116, 115], Lib.itoa slots]) := by
    rw [cuts_split, ← C]
    refine split_join _ (by simp) fun w hw => ?_
    simp only [List.mem_cons, List.mem_append, List.not_mem_nil, or_false] at hw
    rcases hw with (rfl | hw | rfl) | hw | rfl | rfl
    · decide
    · exact (a1 w hw).1
    · decide
    · exact (b1 w hw).1
    · decide
    · exact i32
  have sA : typesR ([102, 117, 110, 99, 32] ++ (Ty.list ps ++ [32, 45])) = ps := by
    unfold typesR
    rw [cuts_split, ← A, split_join _ (by simp) (fun w hw => by
      simp only [List.mem_cons, List.mem_append, List.not_mem_nil, or_false] at hw
      rcases hw with rfl | hw | rfl
      · decide
      · exact (a1 w hw).1
      · decide)]
    rw [List.flatMap_append, List.flatMap_append, a2, show ([[102, 117, 110, 99]] : List W).flatMap tyR = [] from by decide +kernel, show ([[45]] : List W).flatMap tyR = [] from by decide +kernel]
    simp
  have sB : typesR (32 :: (Ty.list rs ++ ([32, 115, 108, 111, 116, 115, 32] ++ Lib.itoa slots))) = rs := by
    unfold typesR
    rw [cuts_split, ← B, split_join _ (by simp) (fun w hw => by
      simp only [List.mem_cons, List.mem_append, List.not_mem_nil, or_false] at hw
      rcases hw with rfl | hw | rfl | rfl
      · decide
      · exact (b1 w hw).1
      · decide
      · exact i32)]
    rw [List.flatMap_append, List.flatMap_append, b2, show ([[]] : List W).flatMap tyR = [] from by decide +kernel]
    simp only [List.flatMap_cons, List.flatMap_nil, i1, show tyR [115, 108, 111, 116, 115] = [] from by decide +kernel]
    simp
  have sC : (cuts 32 (head ps rs slots)).getLastD [] = Lib.itoa slots := by
    rw [s32, List.getLastD_eq_getLast?, show (([[102, 117, 110, 99]] ++ (tw ps ++ [[45, 62]])) ++ (tw rs ++ [[115, 108, 111, 116, 115], Lib.itoa slots])) = (([[102, 117, 110, 99]] ++ (tw ps ++ [[45, 62]])) ++ (tw rs ++ [[115, 108, 111, 116, 115]])) ++ [Lib.itoa slots] by simp, List.getLast?_concat]; rfl
  unfold rheadP
  rw [sC, s62, if_pos (by rfl)]
  simp only [List.headD_cons, List.tail_cons]
  rw [sA, sB, rnum_itoa h3]
  simp [h]
theorem rheadP_some {s : W} (h : (rheadP s).2 = true) : head (rheadP s).1.1.1 (rheadP s).1.1.2 (rheadP s).1.2 = s ∧ s ≠ [] := by
  unfold rheadP at h ⊢
  split
  · rename_i h1
    rw [if_pos h1] at h
    simpa using h
  · rename_i h1; rw [if_neg h1] at h; cases h
theorem head_same (s : W) : (rheadP s).2 = (headerP s).2 ∧ ((headerP s).2 = true → (rheadP s).1 = (headerP s).1) := by
  rcases h : (headerP s).2 with _ | _
  · refine ⟨?_, by simp⟩
    rcases h2 : (rheadP s).2 with _ | _
    · rfl
    · obtain ⟨a, b⟩ := rheadP_some h2
      have := headerP_back (by rw [a]; exact b)
      rw [a] at this
      rw [this] at h; cases h
  · obtain ⟨a, b⟩ := headerP_some h
    have := rheadP_back (by rw [a]; exact b)
    rw [a] at this
    rw [this]; exact ⟨rfl, fun _ => rfl⟩
/-! The function. -/
def runR : Nat → Mf → List W → Mf × Int × Int
  | _, _, [] => (mf0, 1, 4)
  | i, f, [w] => if w = [] then (f, 0, 0) else (mf0, (i : Int), 4)
  | i, f, w :: u :: l => if (rinsP w).2 then runR (i + 1) (addI f (rinsP w).1) (u :: l) else (mf0, (i : Int), 4)
def rparse (s : W) : Mf × Int × Int :=
  if (rheadP ((cuts 10 s).headD [])).2 = true ∧ (cuts 10 s).length ≠ 1 then runR 2 (mfH (rheadP ((cuts 10 s).headD [])).1) (cuts 10 s).tail else (mf0, 1, 4)
theorem run_same : ∀ (L : List W) (i : Nat) (f : Mf), runR i f L = runP i f L
  | [], i, f => rfl
  | [w], i, f => rfl
  | w :: u :: L, i, f => by
    obtain ⟨a, b⟩ := ins_same w
    rw [runR, runP, a]
    split
    · rename_i h; rw [b h]; exact run_same _ _ _
    · rfl
theorem parse_same (s : W) : rparse s = parseO s := by
  unfold rparse parseO
  rw [cuts_split]
  obtain ⟨a, b⟩ := head_same ((Lib.split s [10]).headD [])
  rw [a]
  split
  · rename_i h; rw [b h.1, run_same]
  · rfl
end Go.Proofs.YtadnfekogmjieaaGreatDoor.Mc
set_option linter.unusedVariables false
set_option linter.unusedSimpArgs false
namespace Go.Proofs.YtadnfekogmjieaaGreatDoor.Mc
/-! Opcodes: the number of operands and results, the bytes of an access. -/
def sigC (op : Int) : Option (Nat × Nat) :=
  if op = 1 ∨ op = 64525 ∨ op = 64521 then some (0, 0)
  else if op = 65 ∨ op = 63 ∨ op = 64528 then some (0, 1)
  else if op = 66 then some (0, 1)
  else if op = 210 then some (0, 1)
  else if op = 64 then some (1, 1)
  else if op = 64523 ∨ op = 64522 ∨ op = 64520 ∨ op = 64526 ∨ op = 64524 then some (3, 0)
  else if op = 167 then some (1, 1)
  else if op = 172 ∨ op = 173 then some (1, 1)
  else none
def i32d : W := [105, 51, 50, 46]
def i64d : W := [105, 54, 52, 46]
def lLoad : W := [108, 111, 97, 100]
def lStore : W := [115, 116, 111, 114, 101]
def lEqz : W := [101, 113, 122]
def lClz : W := [99, 108, 122]
def lCtz : W := [99, 116, 122]
def lPop : W := [112, 111, 112, 99, 110, 116]
def lExt : W := [101, 120, 116, 101, 110, 100]
def begN (s : W) : Bool := Lib.hasPrefix s i32d || Lib.hasPrefix s i64d
def numC (op : Int) (tail : W) : Nat × Nat :=
  if Lib.hasPrefix tail lLoad then (1, 1) else if Lib.hasPrefix tail lStore then (2, 0) else if tail = lEqz then (1, 1)
  else if 70 ≤ op ∧ op ≤ 90 then (2, 1)
  else if tail = lClz ∨ tail = lCtz ∨ tail = lPop ∨ Lib.hasPrefix tail lExt = true then (1, 1) else (2, 1)
def sigO (op : Int) : (Nat × Nat) × Bool :=
  match sigC op with
  | some p => (p, true)
  | none => if begN (Opc.name op) then (numC op ((Opc.name op).drop 4), true) else ((0, 0), false)
def accO (op : Int) : Bool := (decide (40 ≤ op) && decide (op ≤ 62)) && !(Opc.name op == [])
def widN (s : W) : Int :=
  if Lib.contains (s.drop 4) [56] then 1 else if Lib.contains (s.drop 4) [49, 54] then 2 else if Lib.contains (s.drop 4) [51, 50] then 4
  else if s.take 3 = [105, 51, 50] then 4 else 8
def widO (op : Int) : Int := if accO op then widN (Opc.name op) else 0
def numO2 (op : Int) : Nat := if !(sigO op).2 || !((sigO op).1.2 == 1) || decide (0 < widO op) || !begN (Opc.name op) then 0 else (sigO op).1.1
/-- The reference's search. -/
def hasAt (s part : W) (i : Nat) : Bool := decide (i + part.length ≤ s.length) && ((s.drop i).take part.length == part)
def withinR (s part : W) : Bool := (List.range (s.length + 1)).any (hasAt s part)
def ofR (op : Int) : Int := match Opc.refRows.find? (fun r => r.1 == op) with | some r => r.2.2 | none => 0
def sigR (op : Int) : (Nat × Nat) × Bool :=
  match sigC op with
  | some p => (p, true)
  | none =>
    if ofR op = 17 ∧ withinR (Opc.name op) lLoad = true then ((1, 1), true)
    else if ofR op = 17 then ((2, 0), true)
    else if op = 69 ∨ op = 80 then ((1, 1), true)
    else if (69 < op ∧ op ≤ 79) ∨ (80 < op ∧ op ≤ 90) then ((2, 1), true)
    else if (103 ≤ op ∧ op ≤ 105) ∨ (121 ≤ op ∧ op ≤ 123) ∨ withinR (Opc.name op) lExt = true then ((1, 1), true)
    else if (106 ≤ op ∧ op ≤ 120) ∨ (124 ≤ op ∧ op ≤ 138) then ((2, 1), true)
    else ((0, 0), false)
def d8 : W := [100, 56]
def e8 : W := [101, 56]
def d16 : W := [100, 49, 54]
def e16 : W := [101, 49, 54]
def d32 : W := [100, 51, 50]
def e32 : W := [101, 51, 50]
def widR (op : Int) : Int :=
  if ofR op ≠ 17 then 0
  else if withinR (Opc.name op) d8 = true ∨ withinR (Opc.name op) e8 = true then 1
  else if withinR (Opc.name op) d16 = true ∨ withinR (Opc.name op) e16 = true then 2
  else if withinR (Opc.name op) d32 = true ∨ withinR (Opc.name op) e32 = true then 4
  else if ((Opc.name op).take 3).drop 1 = [51, 50] then 4
  else 8
def numR2 (op : Int) (n : Nat) : Bool := ((((((sigR op).2 && decide (widR op = 0)) && decide (4 < (Opc.name op).length)) && ((Opc.name op).take 4 == i32d || (Opc.name op).take 4 == i64d)) && decide ((sigR op).1.1 = n)) && decide ((sigR op).1.2 = 1))
set_option maxRecDepth 100000 in
theorem ops_facts : ∀ x ∈ Opc.all, sigO x.1 = sigR x.1 ∧ widO x.1 = widR x.1 ∧ ((numO2 x.1 == 1) = numR2 x.1 1) ∧ ((numO2 x.1 == 2) = numR2 x.1 2) ∧
    ((decide (0 < widO x.1) && decide ((sigO x.1).1.1 = 1)) = (decide (0 < widR x.1) && decide (x.1 < 54))) ∧ ((decide (0 < widO x.1) && decide ((sigO x.1).1.1 = 2)) = (decide (0 < widR x.1) && decide (54 ≤ x.1))) ∧ 0 ≤ x.1 ∧ x.1 ≤ 64529 := by decide +kernel
theorem known_mem {op : Int} (h : Opc.known op = true) : ∃ s, (op, s) ∈ Opc.all := by
  unfold Opc.known at h
  rcases hl : Opc.look op Opc.all with _ | s
  · rw [hl] at h; cases h
  · exact ⟨s, look_mem hl⟩
end Go.Proofs.YtadnfekogmjieaaGreatDoor.Mc
set_option linter.unusedVariables false
set_option linter.unusedSimpArgs false
namespace Go.Proofs.YtadnfekogmjieaaGreatDoor.Mc
/-- An import, what is read of it. -/
structure Im where
  kind : Int
  func : Int
  elem : Int
  gtyp : Int
  gmut : Bool
/-- A module, what is read of it. -/
structure Md where
  types : List (List Int × List Int)
  imps : List Im
  funcs : List Int
  tables : List Int
  mems : Nat
  globals : List (Int × Bool)
  elems : Nat
  datas : Nat
/-- The items of a module by kind. -/
structure Th where
  types : List (List Int × List Int)
  funcs : List Int
  tables : List Int
  mems : Nat
  globals : List (Int × Bool)
  elems : Nat
  datas : Nat
def impF (l : List Im) : List Int := (l.filter fun x => x.kind == 0).map (·.func)
def impT (l : List Im) : List Int := (l.filter fun x => x.kind == 1).map (·.elem)
def impM (l : List Im) : Nat := (l.filter fun x => x.kind == 2).length
def impG (l : List Im) : List (Int × Bool) := (l.filter fun x => x.kind == 3).map fun x => (x.gtyp, x.gmut)
def thOf (m : Md) : Th := ⟨m.types, impF m.imps ++ m.funcs, impT m.imps ++ m.tables, m.mems + impM m.imps, impG m.imps ++ m.globals, m.elems, m.datas⟩
/-- Entry i of a list, if there is one. -/
def ent {α : Type} (l : List α) (i : Int) : Option α := if 0 ≤ i then l[i.toNat]? else none
def inL (i : Int) (n : Nat) : Bool := within i ((n : Int) - 1)
/-- What an instruction must have: destinations, sources, targets, perhaps more targets; whether its other fields are right. -/
structure Wt where
  d : Nat
  s : Nat
  t : Nat
  more : Bool
  ok : Bool
def wt0 : Wt := ⟨0, 0, 0, false, false⟩
def accW (t : Th) (x : Mi) (n : Nat) : Bool := ((decide (0 < widO x.op) && decide ((sigO x.op).1.1 = n)) && inL x.b t.mems) && decide (x.n ≤ 4294967295)
def typLen (t : Th) (i : Int) : (Nat × Nat) × Bool := match ent t.types i with | some f => ((f.1.length, f.2.length), true) | none => ((0, 0), false)
def bulkW (t : Th) (x : Mi) : Wt :=
  if x.op = 64523 then ⟨0, 3, 0, false, inL x.b t.mems && x.a == 0⟩
  else if x.op = 64522 then ⟨0, 3, 0, false, inL x.b t.mems && inL x.a t.mems⟩
  else if x.op = 64520 then ⟨0, 3, 0, false, inL x.b t.mems && inL x.a t.datas⟩
  else if x.op = 64521 then ⟨0, 0, 0, false, inL x.a t.datas && x.b == 0⟩
  else wt0
def oneT (t : Th) (x : Mi) : Bool := inL x.a t.tables.length && x.b == 0
def tabW (t : Th) (x : Mi) : Wt :=
  if x.op = 37 then ⟨1, 1, 0, false, oneT t x⟩
  else if x.op = 38 then ⟨0, 2, 0, false, oneT t x⟩
  else if x.op = 64528 then ⟨1, 0, 0, false, oneT t x⟩
  else if x.op = 64527 then ⟨1, 2, 0, false, oneT t x⟩
  else if x.op = 64529 then ⟨0, 3, 0, false, oneT t x⟩
  else if x.op = 64526 then ⟨0, 3, 0, false, inL x.a t.tables.length && inL x.b t.tables.length⟩
  else if x.op = 64524 then ⟨0, 3, 0, false, inL x.a t.elems && inL x.b t.tables.length⟩
  else if x.op = 64525 then ⟨0, 0, 0, false, inL x.a t.elems && x.b == 0⟩
  else wt0
def callW (t : Th) (x : Mi) : Wt := match ent t.funcs x.a with | none => wt0 | some i => ⟨(typLen t i).1.2, (typLen t i).1.1, 0, false, (typLen t i).2⟩
def calliW (t : Th) (x : Mi) : Wt := ⟨(typLen t x.a).1.2, (typLen t x.a).1.1 + 1, 0, false, ((typLen t x.a).2 && inL x.b t.tables.length) && ent t.tables x.b == some 3⟩
def setOk (t : Th) (x : Mi) : Bool := match ent t.globals x.a with | some g => g.2 | none => false
def want (t : Th) (x : Mi) (nr : Nat) : Wt :=
  if x.kind = 0 then ⟨1, 0, 0, false, true⟩
  else if x.kind = 1 then ⟨1, 1, 0, false, true⟩
  else if x.kind = 2 then ⟨1, 1, 0, false, numO2 x.op == 1⟩
  else if x.kind = 3 then ⟨1, 2, 0, false, numO2 x.op == 2⟩
  else if x.kind = 4 then ⟨1, 3, 0, false, true⟩
  else if x.kind = 5 then ⟨1, 1, 0, false, accW t x 1⟩
  else if x.kind = 6 then ⟨0, 2, 0, false, accW t x 2⟩
  else if x.kind = 7 then ⟨0, 1, 0, false, ((decide (1 ≤ x.a) && decide (x.a ≤ 8)) && inL x.b t.mems) && decide (x.n ≤ 4294967295)⟩
  else if x.kind = 8 then ⟨1, 0, 0, false, inL x.b t.mems⟩
  else if x.kind = 9 then ⟨1, 1, 0, false, inL x.b t.mems⟩
  else if x.kind = 10 then ⟨1, 0, 0, false, inL x.a t.globals.length⟩
  else if x.kind = 11 then ⟨0, 1, 0, false, setOk t x⟩
  else if x.kind = 12 then callW t x
  else if x.kind = 13 then calliW t x
  else if x.kind = 14 then ⟨1, 0, 0, false, inL x.a t.funcs.length⟩
  else if x.kind = 15 then ⟨1, 1, 0, false, true⟩
  else if x.kind = 16 then bulkW t x
  else if x.kind = 17 then tabW t x
  else if x.kind = 18 then ⟨0, 0, 0, false, decide (1 ≤ x.a) && decide (x.a ≤ 4294967295)⟩
  else if x.kind = 19 then ⟨0, 0, 1, false, true⟩
  else if x.kind = 20 then ⟨0, 1, 1, false, true⟩
  else if x.kind = 21 then ⟨0, 1, 1, true, true⟩
  else if x.kind = 22 then ⟨0, nr, 0, false, true⟩
  else if x.kind = 23 then ⟨0, 0, 0, false, decide (1 ≤ x.trap) && decide (x.trap ≤ 12)⟩
  else wt0
def plOk (slots regs : Int) (p : Pl) : Bool := if p.slot then within p.n (slots - 1) else within p.n (regs - 1)
/-- No place occurs twice. -/
def onceGo : List Pl → List Pl → Bool
  | _, [] => true
  | seen, p :: l => !seen.contains p && onceGo (seen ++ [p]) l
def once (l : List Pl) : Bool := onceGo [] l
def fits (w : Wt) (x : Mi) : Bool := (((w.ok && decide (x.d.length = w.d)) && decide (x.s.length = w.s)) && decide (w.t ≤ x.tos.length)) && (decide (x.tos.length ≤ w.t) || w.more)
def toOk (n : Nat) (z : Int) : Bool := within z ((n : Int) - 1)
def rightI (t : Th) (x : Mi) (f : Mf) (regs : Int) : Bool :=
  (spare x && fits (want t x f.rs.length) x) && (((x.d.all (plOk f.slots regs) && x.s.all (plOk f.slots regs)) && once x.d) && x.tos.all (toOk f.code.length))
def goesK (k : Int) : Bool := !(k == 19 || k == 21 || k == 22 || k == 23)
def findBad (t : Th) (f : Mf) (regs : Int) : Nat → List Mi → Option Nat
  | _, [] => none
  | i, x :: l => if rightI t x f regs then findBad t f regs (i + 1) l else some i
def mfOk (f : Mf) : Bool := ((Ty.right f.ps && Ty.right f.rs) && (decide ((f.ps.length : Int) ≤ f.slots) && decide (f.slots ≤ 65536))) && !f.code.isEmpty
def check (t : Th) (f : Mf) (regs : Int) : Int × Int :=
  if within regs 16 = false then (0, 31)
  else if mfOk f = false then (0, 30)
  else match findBad t f regs 0 f.code with
    | some i => ((i : Int), 30)
    | none => if goesK (f.code.getLastD mi0).kind then (((f.code.length - 1 : Nat) : Int), 30) else (0, 0)
/-! The reference. -/
def hOp (k : Int) : Bool := ((((k == 2 || k == 3) || k == 5) || k == 6) || k == 16) || k == 17
def hA (k : Int) : Bool := k == 7 || (k == 10 || (k == 11 || (k == 12 || (k == 13 || (k == 14 || (k == 16 || (k == 17 || k == 18)))))))
def hB (k : Int) : Bool := k == 5 || (k == 6 || (k == 7 || (k == 8 || (k == 9 || (k == 13 || (k == 16 || k == 17))))))
def hN (k : Int) : Bool := ((k == 0 || k == 5) || k == 6) || k == 7
end Go.Proofs.YtadnfekogmjieaaGreatDoor.Mc
set_option linter.unusedVariables false
set_option linter.unusedSimpArgs false
namespace Go.Proofs.YtadnfekogmjieaaGreatDoor.Mc
def unused2R (x : Mi) : Bool := ((((((hOp x.kind || x.op == 0) && (hA x.kind || x.a == 0)) && (hB x.kind || x.b == 0)) && (hN x.kind || x.n == 0)) && decide (0 ≤ x.trap)) && decide (x.trap ≤ 12)) && (x.kind == 23 || x.trap == 0)
def rtoldA (x : Mi) : Bool := (((!decide (x.kind < 0) && !decide (24 ≤ x.kind)) && index x.a) && index x.b) && unused2R x
def rtoldB (x : Mi) : Bool := !(hOp x.kind && (!Opc.known x.op || x.op == 28))
def rtold (x : Mi) : Bool := (rtoldA x && rtoldB x) && ((x.d.all (fun p => index p.n) && x.s.all (fun p => index p.n)) && x.tos.all index)
theorem row_has : ∀ k : Fin 24, hOp ((k.val : Nat) : Int) = (row ((k.val : Nat) : Int)).op ∧ hA ((k.val : Nat) : Int) = (row ((k.val : Nat) : Int)).a ∧ hB ((k.val : Nat) : Int) = (row ((k.val : Nat) : Int)).b ∧ hN ((k.val : Nat) : Int) = (row ((k.val : Nat) : Int)).n ∧ (((k.val : Nat) : Int) == 23) = (row ((k.val : Nat) : Int)).t := by decide
theorem not_lt_dec (a b : Int) : (!decide (a < b)) = decide (b ≤ a) := by rw [Bool.eq_iff_iff]; simp
theorem rtoldA_same (x : Mi) : (rtoldA x && rtoldB x) = toldA x := by
  by_cases hk : ∃ k : Nat, x.kind = k ∧ k ≤ 23
  · obtain ⟨k, hk, hk2⟩ := hk
    obtain ⟨h1, h2, h3, h4, h5⟩ := row_has ⟨k, by omega⟩
    dsimp only at h1 h2 h3 h4 h5
    unfold rtoldA rtoldB unused2R toldA spare spareR
    rw [hk, h1, h2, h3, h4, h5, not_lt_dec, not_lt_dec, not_lt_dec]
    have w1 : within (k : Int) 23 = true := by unfold within; simp; omega
    have w2 : decide ((0 : Int) ≤ (k : Int)) = true := by simp
    have w3 : decide ((k : Int) < 24) = true := by simp; omega
    have w4 : (!decide ((24 : Int) ≤ (k : Int))) = true := by simp; omega
    rw [w1]
    simp only [w2, w3, w4, Bool.true_and]
    ac_rfl
  · have a : rtoldA x = false := by
      unfold rtoldA
      by_cases h0 : x.kind < 0
      · rw [decide_eq_true h0]; rfl
      · have : (24 : Int) ≤ x.kind := by
          rcases Int.lt_or_le x.kind 24 with h | h
          · exact absurd ⟨x.kind.toNat, by omega, by omega⟩ hk
          · exact h
        rw [decide_eq_true this]
        simp
    have b : toldA x = false := by
      unfold toldA spare
      have : within x.kind 23 = false := by
        rcases h : within x.kind 23 with _ | _
        · rfl
        · unfold within at h
          simp only [Bool.and_eq_true, decide_eq_true_eq] at h
          exact absurd ⟨x.kind.toNat, by omega, by omega⟩ hk
      rw [this]; rfl
    rw [a, b]; rfl
theorem all_far (l : List Pl) : l.all (fun p => index p.n) = !l.any far := by
  rw [List.not_any_eq_all_not]; unfold far; simp
theorem all_farN (l : List Int) : l.all index = !l.any farN := by
  rw [List.not_any_eq_all_not]; unfold farN; simp
theorem rtold_same (x : Mi) : rtold x = told x := by
  unfold rtold told
  rw [rtoldA_same, all_far, all_far, all_farN]
/-! Line. -/
def sp (w : W) : W := 32 :: w
def rpl (l : List Pl) : W := l.flatMap fun p => sp (plW p)
def rto (l : List Int) : W := l.flatMap fun z => sp (Lib.itoa z)
def rops (x : Mi) : W := (if hOp x.kind then sp (Opc.name x.op) else []) ++ ((if hA x.kind then sp (Lib.itoa x.a) else []) ++ ((if hB x.kind then sp (Lib.itoa x.b) else []) ++ ((if hN x.kind then sp (Lib.decDigits x.n) else []) ++ (if x.kind == 23 then sp (Lib.itoa x.trap) else []))))
def rplaces (x : Mi) : W := if x.d.length + x.s.length = 0 then [] else rpl x.d ++ ([32, 61] ++ rpl x.s)
def rtos (x : Mi) : W := (if x.tos.length = 0 then [] else [32, 58]) ++ rto x.tos
def rline (x : Mi) : W := (row x.kind).w ++ (rops x ++ (rplaces x ++ rtos x))
theorem join_sp : ∀ (l : List W) (w : W), Lib.join (w :: l) [32] = w ++ l.flatMap sp := by
  have ht : ∀ l : List W, Lib.joinTail [32] l = l.flatMap sp := by
    intro l
    induction l with
    | nil => rfl
    | cons a l ih =>
      have e : Lib.joinTail [32] (a :: l) = 32 :: (a ++ Lib.joinTail [32] l) := by simp [Lib.joinTail]
      rw [e, ih, List.flatMap_cons]; rfl
  intro l w
  rw [Lib.join_cons, ht]
theorem rops_same {x : Mi} {k : Nat} (hk : x.kind = k) (hk2 : k ≤ 23) : rops x = (opsW (row x.kind) x).flatMap sp := by
  obtain ⟨h1, h2, h3, h4, h5⟩ := row_has ⟨k, by omega⟩
  dsimp only at h1 h2 h3 h4 h5
  unfold rops opsW
  rw [hk, h1, h2, h3, h4, h5]
  rcases (row (k : Int)).op with _ | _ <;> rcases (row (k : Int)).a with _ | _ <;> rcases (row (k : Int)).b with _ | _ <;> rcases (row (k : Int)).n with _ | _ <;> rcases (row (k : Int)).t with _ | _ <;> simp
theorem rplaces_same (x : Mi) : rplaces x = (placesW x).flatMap sp := by
  unfold rplaces placesW rpl
  by_cases h : x.d = [] ∧ x.s = []
  · rw [if_pos h, if_pos (by rw [h.1, h.2]; rfl)]; rfl
  · rw [if_neg h, if_neg]
    · rw [List.flatMap_append, List.flatMap_cons, List.flatMap_map, List.flatMap_map]; rfl
    · intro e
      exact h ⟨List.eq_nil_of_length_eq_zero (by omega), List.eq_nil_of_length_eq_zero (by omega)⟩
theorem rtos_same (x : Mi) : rtos x = (toW x).flatMap sp := by
  unfold rtos toW rto
  by_cases h : x.tos = []
  · rw [if_pos h, if_pos (by rw [h]; rfl), h]; rfl
  · rw [if_neg h, if_neg (fun e => h (List.eq_nil_of_length_eq_zero e)), List.flatMap_cons, List.flatMap_map]; rfl
theorem rline_same {x : Mi} (h : told x = true) : rline x = line x := by
  obtain ⟨k, hk, hk2⟩ := ((told_iff x).1 h).kind
  unfold rline line lineW
  rw [if_pos h, join_sp, List.flatMap_append, List.flatMap_append, rops_same hk hk2, rplaces_same, rtos_same]
/-! Print. -/
def rhead (f : Mf) : W := lFunc ++ (Ty.text f.ps f.rs ++ (lSlots ++ Lib.itoa f.slots))
end Go.Proofs.YtadnfekogmjieaaGreatDoor.Mc
set_option linter.unusedVariables false
set_option linter.unusedSimpArgs false
namespace Go.Proofs.YtadnfekogmjieaaGreatDoor.Mc
theorem findBad_at {t : Th} {f : Mf} {r : Int} {x : Mi} {b : List Mi} (hx : rightI t x f r = false) : ∀ {a : List Mi} {i : Nat}, (∀ y ∈ a, rightI t y f r = true) → findBad t f r i (a ++ x :: b) = some (i + a.length)
  | [], i, _ => by simp [findBad, hx]
  | y :: a, i, h => by
    rw [List.cons_append, findBad, if_pos (h y (by simp)), findBad_at hx (fun z hz => h z (by simp [hz])), List.length_cons]
    congr 1; omega
/-- Correct code. -/
structure Good (t : Th) (f : Mf) (r : Int) : Prop where
  regs : within r 16 = true
  ok : mfOk f = true
  all : ∀ x ∈ f.code, rightI t x f r = true
  last : goesK (f.code.getLastD mi0).kind = false
theorem check_over (t : Th) (f : Mf) {r : Int} (h : within r 16 = false) : check t f r = (0, 31) := by unfold check; rw [if_pos h]
/-! More registers. -/
/-! Cut off. -/
theorem mfOk_iff {f : Mf} : mfOk f = true ↔ (((Ty.right f.ps = true ∧ Ty.right f.rs = true) ∧ ((f.ps.length : Int) ≤ f.slots ∧ f.slots ≤ 65536)) ∧ f.code ≠ []) := by
  unfold mfOk
  simp only [Bool.and_eq_true, decide_eq_true_eq, Bool.not_eq_true', List.isEmpty_eq_false_iff]
/-! Printable. -/
structure Th.Sm (t : Th) : Prop where
  ty : t.types.length ≤ 4000000
  fn : t.funcs.length ≤ 4000000
  tb : t.tables.length ≤ 4000000
  mm : t.mems ≤ 4000000
  gl : t.globals.length ≤ 4000000
  el : t.elems ≤ 4000000
  da : t.datas ≤ 4000000
/-! Turned. -/
def setI (f : Mf) (k : Nat) (x : Mi) : Mf := ⟨f.ps, f.rs, f.slots, f.code.take k ++ (x :: f.code.drop (k + 1))⟩
theorem turned {t : Th} {f : Mf} {r : Int} (h : Good t f r) {k : Nat} (hk : k < f.code.length) {x : Mi} (hx : rightI t x f r = false) : check t (setI f k x) r = ((k : Int), 30) := by
  have hlen : (setI f k x).code.length = f.code.length := by
    unfold setI
    simp only [List.length_append, List.length_take, List.length_cons, List.length_drop]
    omega
  have hsame : ∀ y, rightI t y (setI f k x) r = rightI t y f r := fun y => by
    unfold rightI
    rw [hlen]
    rfl
  unfold check
  rw [if_neg (by rw [h.regs]; simp), if_neg]
  · have hb : findBad t (setI f k x) r 0 (setI f k x).code = some (0 + (f.code.take k).length) := by
      refine findBad_at (by rw [hsame]; exact hx) fun y hy => ?_
      rw [hsame]
      exact h.all y (List.mem_of_mem_take hy)
    rw [hb]
    dsimp only
    rw [Nat.zero_add, List.length_take, Nat.min_eq_left (by omega)]
  · rw [Bool.not_eq_false, mfOk_iff]
    obtain ⟨h1, h2⟩ := mfOk_iff.1 h.ok
    refine ⟨h1, ?_⟩
    intro e
    have := congrArg List.length e
    rw [hlen] at this
    simp at this
    exact h2 this
section
variable {t : Th} {x y : Mi} {f : Mf} {r : Int}
end
end Go.Proofs.YtadnfekogmjieaaGreatDoor.Mc
set_option linter.unusedVariables false
set_option linter.unusedSimpArgs false
namespace Go.Proofs.YtadnfekogmjieaaGreatDoor.Mc
def sv0 : Mi := ⟨0, 0, 0, 0, 7, [⟨false, 0⟩], [], [], 0⟩
def sv1 : Mi := ⟨22, 0, 0, 0, 0, [], [⟨false, 0⟩], [], 0⟩
def sv2 : Mi := ⟨1, 0, 0, 0, 0, [⟨false, 0⟩], [⟨false, 0⟩], [], 0⟩
def sv : Mf := ⟨[], [1], 0, [sv0, sv1]⟩
def svL : Mf := ⟨[], [1], 0, [sv0, sv1, sv2]⟩
def svH : W := [102, 117, 110, 99, 32, 40, 41, 32, 45, 62, 32, 40, 105, 51, 50, 41, 32, 115, 108, 111, 116, 115, 32, 48]
def svA : W := [99, 111, 110, 115, 116, 32, 55, 32, 114, 48, 32, 61]
def svB : W := [114, 101, 116, 117, 114, 110, 32, 61, 32, 114, 48]
def svT : W := [102, 117, 110, 99, 32, 40, 41, 32, 45, 62, 32, 40, 105, 51, 50, 41, 32, 115, 108, 111, 116, 115, 32, 48, 10, 99, 111, 110, 115, 116, 32, 55, 32, 114, 48, 32, 61, 10, 114, 101, 116, 117, 114, 110, 32, 61, 32, 114, 48, 10]
def bdH : W := [102, 117, 110, 99, 32, 40, 41, 32, 45, 62, 32, 40, 41, 32, 115, 108, 111, 116, 115, 32, 48]
def bdA : W := [99, 111, 110, 115, 116, 32, 48, 55, 32, 114, 48, 32, 61]
def bdT : W := [102, 117, 110, 99, 32, 40, 41, 32, 45, 62, 32, 40, 41, 32, 115, 108, 111, 116, 115, 32, 48, 10, 99, 111, 110, 115, 116, 32, 48, 55, 32, 114, 48, 32, 61, 10]
theorem itoa0 : Lib.itoa 0 = [48] := by
  show (if (0 : Int) < 0 then _ else Lib.decDigits (0 : Int).toNat) = _
  rw [if_neg (by omega)]
  exact dec_small (by decide)
theorem sv_head : head [] [1] 0 = svH := by
  unfold head
  rw [if_pos (by decide), itoa0]
  decide
theorem bd_head : head [] [] 0 = bdH := by
  unfold head
  rw [if_pos (by decide), itoa0]
  decide
set_option maxRecDepth 100000 in
theorem sv_told : told sv0 = true ∧ told sv1 = true := by decide +kernel
theorem sv_line0 : line sv0 = svA := by
  unfold line
  rw [if_pos sv_told.1]
  have e : lineW sv0 = [[99, 111, 110, 115, 116], Lib.decDigits 7, 114 :: Lib.itoa 0, [61]] := rfl
  rw [e, itoa0, dec_small (by decide)]
  decide
theorem sv_line1 : line sv1 = svB := by
  unfold line
  rw [if_pos sv_told.2]
  have e : lineW sv1 = [[114, 101, 116, 117, 114, 110], [61], 114 :: Lib.itoa 0] := rfl
  rw [e, itoa0]
  decide
theorem sv_print : print sv = svT := by
  unfold print
  have e : printGo sv.code = some (svA ++ 10 :: (svB ++ [10])) := by
    show printGo [sv0, sv1] = _
    rw [printGo, printGo, printGo, sv_line0, sv_line1, if_neg (by decide), if_neg (by decide)]
    rfl
  rw [e]
  show (if head [] [1] 0 = [] then [] else head [] [1] 0 ++ 10 :: (svA ++ 10 :: (svB ++ [10]))) = _
  rw [sv_head]
  decide
theorem sv_may : May sv := by rw [← print_may, sv_print]; decide
theorem sv_parse : parseO svT = (sv, 0, 0) := by
  rw [← sv_print]
  refine parse_back sv_may ?_
  show ∀ x ∈ [sv0, sv1], x.n < 18446744073709551616
  decide
theorem bd_split : Lib.split bdT [10] = [bdH, bdA, []] := by
  have e : bdT = Lib.join [bdH, bdA, []] [10] := by decide
  rw [e]
  exact split_join _ (by simp) (by decide)
theorem bd_ins : (insP bdA).2 = false := by
  rw [Bool.eq_false_iff]
  intro h
  obtain ⟨h1, h2⟩ := insP_some h
  have ht := (told_iff _).1 h1
  have hs := split_line ht
  rw [h2] at hs
  have e : Lib.split bdA [32] = [[99, 111, 110, 115, 116], [48, 55], [114, 48], [61]] := by
    have e : bdA = Lib.join [[99, 111, 110, 115, 116], [48, 55], [114, 48], [61]] [32] := by decide
    rw [e]
    exact split_join _ (by simp) (by decide)
  rw [e] at hs
  obtain ⟨x, hx⟩ : ∃ x, (insP bdA).1 = x := ⟨_, rfl⟩
  rw [hx] at hs ht
  obtain ⟨k, hk, hk2⟩ := ht.kind
  unfold lineW at hs
  injection hs with h3 h4
  have h5 := kind_row ⟨k, by omega⟩
  rw [hk] at h3 h4
  dsimp only at h5
  rw [← h3] at h5
  have h6 : k = 0 := by
    have : kindO [99, 111, 110, 115, 116] = 0 := by decide +kernel
    omega
  subst h6
  have e2 : opsW (row ((0 : Nat) : Int)) x = [Lib.decDigits x.n] := rfl
  rw [e2, List.singleton_append] at h4
  injection h4 with h7 h8
  rcases Nat.lt_or_ge x.n 10 with hn | hn
  · rw [dec_small hn] at h7
    have := congrArg List.length h7; simp at this
  · have hb : x.n < 18446744073709551616 := by rw [← hx]; exact insP_n bdA
    have := puint_dec hb
    rw [← h7] at this
    have h9 : (puint [48, 55]).1 = 7 := by decide +kernel
    rw [this] at h9
    dsimp only at h9
    omega
theorem bd_parse : parseO bdT = (mf0, 2, 4) := by
  unfold parseO
  rw [bd_split, List.headD_cons, List.tail_cons]
  have h : headerP bdH = ((([], []), 0), true) := by
    rw [← bd_head]
    exact headerP_back (by rw [bd_head]; decide)
  rw [h, if_pos ⟨rfl, by decide⟩, runP, bd_ins]
  rfl
def th0 : Th := ⟨[], [], [], 0, [], 0, 0⟩
set_option maxRecDepth 100000 in
theorem sv_checks : check th0 sv 1 = (0, 0) ∧ check th0 sv 0 = (0, 30) ∧ check th0 svL 1 = (2, 30) := by decide +kernel
end Go.Proofs.YtadnfekogmjieaaGreatDoor.Mc
