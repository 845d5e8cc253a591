/-
  Layer 40: The reference's readers of words.
-/
import Derived.Test.YtmhmpobjjhbklaaGreatDoorSR5
import Derived.Test.YtmhmpobjjhbklaaGreatDoorSP3
import Derived.Test.YtmhmpobjjhbklaaGreatDoorSO2
import Derived.Test.YtmhmpobjjhbklaaGreatDoorSR1
import Derived.Test.YtmhmpobjjhbklaaGreatDoorSO5
import Derived.Test.YtmhmpobjjhbklaaGreatDoorSO6
set_option linter.unusedVariables false
set_option linter.unusedSimpArgs false
namespace Go.Proofs.YtmhmpobjjhbklaaGreatDoor
open Go.RowKit
open St (InR)
attribute [local go_sem] ByteArray.extract_mk
/-- A slice of words, in a block below B. -/
def SlB (w : World) (B : Nat) (v : Value) (l : List St.W) : Prop := ∃ A c, v = .slice A l.length c ∧ RdS w B A 1 encS l ∧ l.length ≤ c
abbrev Sl (w : World) (v : Value) (l : List St.W) : Prop := SlB w w.heap.size v l
theorem SlB.more {w : World} {B B' : Nat} {v : Value} {l : List St.W} (h : SlB w B v l) (hB : B ≤ B') : SlB w B' v l := by
  obtain ⟨A, c, e, hr, hc⟩ := h
  exact ⟨A, c, e, hr.more hB, hc⟩
theorem SlB.below {w w' : World} {B : Nat} {v : Value} {l : List St.W} (h : SlB w B v l) (hb : Below B w w') : SlB w' B v l := by
  obtain ⟨A, c, e, hr, hc⟩ := h
  exact ⟨A, c, e, hr.below hb, hc⟩
theorem Sl.on {w w' : World} {v : Value} {l : List St.W} (h : Sl w v l) (hb : Below w.heap.size w w') : Sl w' v l := by
  obtain ⟨A, c, e, hr, hc⟩ := h
  exact ⟨A, c, e, hr.on hb, hc⟩
theorem Sl.cut {w : World} {B g o : Nat} {s : St.W} {l : List St.W} (hr : RdS w B (some ⟨g, o, none⟩) 1 encS (s :: l)) {o' c' : Nat} (ho : l = [] ∨ o' = o + 1) (hc : l.length ≤ c') : SlB w B (.slice (some ⟨g, o', none⟩) l.length c') l := by
  refine ⟨_, _, rfl, ?_, hc⟩
  rcases l with _ | ⟨x, l⟩
  · exact RdS.nil_
  · obtain ⟨g', o'', e, h⟩ := hr.from_ (i := 1) (by simp)
    cases e
    rcases ho with ho | rfl
    · cases ho
    · exact h
namespace St
def givenR (l : List W) (s : W) : List W × Bool := if l.head? = some s then (l.tail, true) else (l, false)
theorem wordsGo_next (f i : Nat) (s : W) (hf : f ≤ i) (hi : i < s.length) (hb : s[i] ≠ 32) : wordsGo ((s.take i).drop f) (s.drop i) = wordsGo ((s.take (i + 1)).drop f) (s.drop (i + 1)) := by
  rw [List.drop_eq_getElem_cons hi, wordsGo, if_neg hb, List.take_succ_eq_append_getElem hi, List.drop_append_of_le_length (by rw [List.length_take]; omega)]
theorem wordsGo_cut (f i : Nat) (s : W) (hi : i < s.length) (hb : s[i] = 32) : wordsGo ((s.take i).drop f) (s.drop i) = (s.take i).drop f :: wordsGo ((s.take (i + 1)).drop (i + 1)) (s.drop (i + 1)) := by
  rw [List.drop_eq_getElem_cons hi, wordsGo, if_pos hb, show (s.take (i + 1)).drop (i + 1) = [] from List.drop_of_length_le (by rw [List.length_take]; omega)]
end St

set_option maxHeartbeats 4000000 in
set_option maxRecDepth 100000 in
theorem rgiven_any (v : Value) (l : List St.W) (s0 : St.W) (w : World) {B : Nat} (h : SlB w B v l) :
    Calls Tryz.prog 103 #[v, .string ⟨s0.toArray⟩] w fun e w' => (∃ v', e = .returned (.tuple #[v', .bool (St.givenR l s0).2]) ∧ SlB w' B v' (St.givenR l s0).1) ∧ w = w' := by
  have HS := Lib.hid h
  obtain ⟨A, c, rfl, hr, hc⟩ := h
  rcases l with _ | ⟨s, l⟩
  · have HX : Hid (St.givenR [] s0 = ([], false)) := Lib.hid rfl
    go_enter Tryz.func103, Tryz.ntmps103
    go_wp2
    go_ret2
    rw [HX.out]
    exact ⟨⟨_, rfl, HS.out⟩, rfl⟩
  · obtain ⟨g, o, rfl, hg, h0⟩ := hr.get (i := 0) (by simp)
    have f0 := h0 0 _ rfl
    simp only [Nat.zero_mul, Nat.add_zero, List.getElem_cons_zero] at f0
    have HC := Lib.hid (fun (o' c' : Nat) (ho : l = [] ∨ o' = o + 1) (hc' : l.length ≤ c') => Sl.cut hr ho hc')
    simp only [List.length_cons] at hc
    have x0 : ¬ ((l.length : Int) + 1 = 0) := by omega
    clear hr h0
    by_cases he : s = s0
    · subst he
      have HX : Hid (St.givenR (s :: l) s = (l, true)) := Lib.hid (by simp [St.givenR])
      clear HS
      go_enter Tryz.func103, Tryz.ntmps103
      go_wp2
      all_goals go_ret2
      all_goals rw [HX.out]
      all_goals exact ⟨⟨_, rfl, HC.out _ _ (by first | exact .inr rfl | exact .inl (List.eq_nil_of_length_eq_zero (by omega))) (by omega)⟩, rfl⟩
    · have HX : Hid (St.givenR (s :: l) s0 = (s :: l, false)) := Lib.hid (by unfold St.givenR; rw [if_neg]; simpa using he)
      have hne := bne_no he
      have hbe := beq_no he
      have hq2 : (s == s0) = false := by simpa using he
      clear HC he
      go_enter Tryz.func103, Tryz.ntmps103
      go_wp2
      go_ret2
      rw [HX.out]
      exact ⟨⟨_, rfl, HS.out⟩, rfl⟩

set_option maxHeartbeats 4000000 in
set_option maxRecDepth 100000 in
theorem rplace_any (A : Option Addr) (c n : Nat) (L : List St.W) (hn : L.length = n) (hL : n ≤ 1000000) (s : St.W) (w : World) (hrd : RdS w w.heap.size A 1 encS L) :
    Calls Tryz.prog 102 #[.slice A n c, .string ⟨s.toArray⟩] w fun e w' => e = .returned (.int .i64 (St.idx L s)) ∧ w = w' := by
  subst hn
  obtain ⟨Z, hZ⟩ : ∃ Z, St.idx L s = Z := ⟨_, rfl⟩
  rw [hZ]
  have HZ : Hid (St.idxFrom s 0 (L.drop 0) = Z) := Lib.hid hZ
  clear hZ
  go_enter Tryz.func102, Tryz.ntmps102
  go_wp2
  go_loopw [5] (fun iv wr => ∃ (i : Nat), iv = .int .i64 (i : Int) ∧ i ≤ L.length ∧ Hid (St.idxFrom s i (L.drop i) = Z) ∧ wr = w) (fun iv _ => L.length - (intOf iv).toNat)
  case atStart => exact ⟨0, rfl, by omega, HZ, rfl⟩
  case round =>
    obtain ⟨i, rfl, hi, hz, rfl⟩ := hrel
    by_cases hia : i < L.length
    · obtain ⟨ga, oa, rfl, hb1, e1⟩ := hrd.get hia
      have f0 := e1 0 _ rfl
      rw [Nat.add_zero, Nat.mul_one] at f0
      have hd : L.drop i = L[i] :: L.drop (i + 1) := List.drop_eq_getElem_cons hia
      obtain ⟨u, hv⟩ : ∃ v, L[i] = v := ⟨_, rfl⟩
      rw [hv] at f0 hd
      have hz2 := hz.out
      rw [hd, St.idxFrom] at hz2
      have x0 : (i : Int) < (L.length : Int) := by omega
      have x2 : (0 : Int) ≤ (i : Int) := by omega
      by_cases he : u = s
      · subst he
        rw [if_pos rfl] at hz2
        have HZ2 := Lib.hid hz2
        clear hz hz2 hd hv e1
        go_wp2
        go_ret
        exact ⟨by rw [← HZ2.out]; rfl, rfl⟩
      · rw [if_neg he] at hz2
        have HZ2 := Lib.hid hz2
        have hbe := beq_no he
        have hq2 : (u == s) = false := by simpa using he
        clear hz hz2 hd hv e1 he
        go_wp2
        go_roundw
        case rel => exact ⟨i + 1, by go_num, by omega, HZ2, by trivial⟩
        case measure => simp [intOf]; omega
    · have hi2 : i = L.length := by omega
      subst hi2
      have x0 : ¬ (L.length : Int) < (L.length : Int) := by omega
      have hz2 := hz.out
      rw [List.drop_length, St.idxFrom] at hz2
      have HZ2 := Lib.hid hz2
      clear hz hz2
      go_wp2
      go_ret
      exact ⟨by rw [← HZ2.out]; rfl, rfl⟩

set_option maxHeartbeats 4000000 in
set_option maxRecDepth 100000 in
theorem rwords_any (s : St.W) (hs : s.length ≤ 1000000) (w : World) :
    Calls Tryz.prog 32 #[.string ⟨s.toArray⟩] w fun e w' => (∃ v, e = .returned v ∧ Sl w' v (St.words s)) ∧ Below w.heap.size w w' := by
  obtain ⟨i0, hi0, hz0, hz1, hz2⟩ := info_parts info_string
  have hsz : (ByteArray.mk s.toArray).size = s.length := by simp [ByteArray.size]
  obtain ⟨Z, hZ⟩ : ∃ Z, St.words s = Z := ⟨_, rfl⟩
  rw [hZ]
  have HZ : Hid (Z = [] ++ St.wordsGo ((s.take 0).drop 0) (s.drop 0)) := Lib.hid (by rw [← hZ]; rfl)
  clear hZ
  go_enter Tryz.func32, Tryz.ntmps32
  go_wp2
  go_loopw [3, 4, 5] (fun ov fv iv wr => ∃ (i f m : Nat) (A : Option Addr) (c : Nat) (out : List St.W), ov = .slice A m c ∧ out.length = m ∧ fv = .int .i64 (f : Int) ∧ iv = .int .i64 (i : Int) ∧ i ≤ s.length + 1 ∧ f ≤ i ∧ m ≤ i ∧ Hid (i = s.length + 1 → Z = out) ∧ Hid (i ≤ s.length → Z = out ++ St.wordsGo ((s.take i).drop f) (s.drop i)) ∧ wr.ownsRow w.heap.size 9 1 (.slice A m c) m (out.flatMap encS) ∧ Below w.heap.size w wr) (fun _ _ iv _ => s.length + 1 - (intOf iv).toNat)
  case atStart => exact ⟨0, 0, 0, none, 0, [], rfl, rfl, rfl, rfl, by omega, by omega, by omega, Lib.hid (fun h => by omega), Lib.hid (fun _ => HZ.out), World.ownsRow_nil _ _ _ _, Below.refl _ _⟩
  case round =>
    clear HZ
    obtain ⟨i, f, m, A, c, out, rfl, hm, rfl, rfl, hi, hf, hmi, HE, HG, hown, hB⟩ := hrel
    by_cases h1 : i = s.length + 1
    · obtain rfl := HE.out h1
      have x0 : ¬ (i : Int) ≤ (s.length : Int) := by omega
      clear HE HG
      go_wp2
      go_ret
      obtain ⟨hc, -⟩ := own_cap hown
      exact ⟨⟨_, rfl, A, c, by rw [hm]; rfl, own_rds encS_len (by omega) hown, by omega⟩, hB⟩
    · have hle : i ≤ s.length := by omega
      have hZ := HG.out hle
      have x0 : (i : Int) ≤ (s.length : Int) := by omega
      have x2 : (0 : Int) ≤ (f : Int) := by omega
      have x4 : (f : Int) ≤ (i : Int) := by omega
      by_cases h2 : i = s.length
      · subst h2
        rw [List.drop_length, St.wordsGo, List.drop_take] at hZ
        have HT := Lib.hid (hZ)
        have HM := Lib.hid hm
        have HB := Lib.hid hB
        have hsz2 := hB.size
        clear hB HE HG hm
        go_wp2_with (at_builtin; refine app_rs Tryz.underlying54 hi0 hz0 hz1 hz2 rfl (by omega) encS_len encS_one _ rfl (.tmp 22) (.tmp 27) rfl w.heap.size _ m _ (by rfl) (hown.alloc _) [(s.drop f).take (s.length - f)] 1 1 _ rfl (by rfl) (one_str _ _) (by omega) (by omega) (by simp; omega) ?_; intro A' c' w2 hown2 hg; have HB3 := Lib.hid (vals_step hown HB.out hg); clear hg)
        go_roundw
        case rel => exact ⟨s.length + 1, s.length + 1, m + 1, A', c', out ++ [(s.drop f).take (s.length - f)], rfl, by rw [List.length_append, HM.out]; rfl, by go_num, by go_num, by omega, by omega, by omega, Lib.hid (fun _ => HT.out), Lib.hid (fun h => by omega), hown2, HB3.out⟩
        case measure => simp [intOf] <;> omega
      · have hlt : i < s.length := by omega
        have x5 : (i : Int) < (s.length : Int) := by omega
        have x6 : ¬ ((i : Int) = (s.length : Int)) := by omega
        have x7 : (0 : Int) ≤ (i : Int) := by omega
        obtain ⟨nb, hnb⟩ : ∃ n : Nat, s[i].toNat = n := ⟨_, rfl⟩
        have y0 : ∀ h, (((ByteArray.mk s.toArray)[i]'h).toNat : Int) = (nb : Int) := fun h => by show ((s[i]).toNat : Int) = _; omega
        by_cases h3 : s[i] = 32
        · rw [St.wordsGo_cut f i s hlt h3, List.drop_take] at hZ
          have y1 : (nb : Int) = 32 := by rw [h3] at hnb; simp at hnb; omega
          clear hnb h3
          have HT := Lib.hid (hZ)
          have HM := Lib.hid hm
          have HB := Lib.hid hB
          have hsz2 := hB.size
          clear hB HE HG hm
          go_wp2_with (at_builtin; refine app_rs Tryz.underlying54 hi0 hz0 hz1 hz2 rfl (by omega) encS_len encS_one _ rfl (.tmp 22) (.tmp 27) rfl w.heap.size _ m _ (by rfl) (hown.alloc _) [(s.drop f).take (i - f)] 1 1 _ rfl (by rfl) (one_str _ _) (by omega) (by omega) (by simp; omega) ?_; intro A' c' w2 hown2 hg; have HB3 := Lib.hid (vals_step hown HB.out hg); clear hg)
          go_roundw
          case rel => exact ⟨i + 1, i + 1, m + 1, A', c', out ++ [(s.drop f).take (i - f)], rfl, by rw [List.length_append, HM.out]; rfl, by go_num, by go_num, by omega, by omega, by omega, Lib.hid (fun h => by omega), Lib.hid (fun _ => by rw [HT.out]; simp), hown2, HB3.out⟩
          case measure => simp [intOf] <;> omega
        · rw [St.wordsGo_next f i s hf hlt h3] at hZ
          have y1 : ¬ ((nb : Int) = 32) := fun e => h3 (UInt8.toNat.inj (by rw [hnb]; simp; omega))
          have HT := Lib.hid hZ
          have y2 : ((nb : Int) == 32) = false := by rw [beq_eq_false_iff_ne]; exact y1
          have y3 : ((i : Int) == (s.length : Int)) = false := by rw [beq_eq_false_iff_ne]; exact x6
          clear hnb h3 hZ HE HG
          go_wp2
          go_roundw
          case rel => exact ⟨i + 1, f, m, A, c, out, rfl, hm, rfl, by go_num, by omega, by omega, by omega, Lib.hid (fun h => by omega), Lib.hid (fun _ => HT.out), hown, hB⟩
          case measure => simp [intOf] <;> omega
end Go.Proofs.YtmhmpobjjhbklaaGreatDoor
set_option linter.unusedVariables false
set_option linter.unusedSimpArgs false
namespace Go.Proofs.YtmhmpobjjhbklaaGreatDoor
open Go.RowKit
open St (InR)
namespace St
theorem rdNat_stop (s : W) (i : Nat) (hi : i < s.length) (h : isD s[i] = false) : rdNat s = (0, false) := by
  unfold rdNat
  rw [if_neg]
  intro ha
  have := List.all_eq_true.1 ha s[i] (List.getElem_mem hi)
  rw [h] at this; cases this
theorem all_take (s : W) (i : Nat) (hi : i < s.length) (h : isD s[i] = true) (ha : (s.take i).all isD = true) : (s.take (i + 1)).all isD = true := by
  rw [List.take_succ_eq_append_getElem hi, List.all_append, ha]; simp [h]
theorem fold_take (s : W) (i n : Nat) (hi : i < s.length) (h : (s.take i).foldl natStep 0 = n) : (s.take (i + 1)).foldl natStep 0 = (10 * n + (s[i].toNat - 48)) % 18446744073709551616 := by
  rw [List.take_succ_eq_append_getElem hi, List.foldl_append, h]; rfl
end St

set_option maxHeartbeats 4000000 in
set_option maxRecDepth 100000 in
theorem rreadNat_any (s : St.W) (hs : s.length ≤ 1000000) (w : World) :
    Calls Tryz.prog 106 #[.string ⟨s.toArray⟩] w fun e w' => e = .returned (.tuple #[.int .u64 ((St.rdNat s).1 : Int), .bool (St.rdNat s).2]) ∧ w = w' := by
  have hsz : (ByteArray.mk s.toArray).size = s.length := by simp [ByteArray.size]
  obtain ⟨Z, hZ⟩ : ∃ Z, St.rdNat s = Z := ⟨_, rfl⟩
  rw [hZ]
  have HZ := Lib.hid hZ
  clear hZ
  go_enter Tryz.func106, Tryz.ntmps106
  go_wp2
  go_loopw [4, 5] (fun nv iv wr => ∃ (i n : Nat), nv = .int .u64 (n : Int) ∧ iv = .int .i64 (i : Int) ∧ i ≤ s.length ∧ n < 18446744073709551616 ∧ Hid ((s.take i).all St.isD = true ∧ (s.take i).foldl St.natStep 0 = n) ∧ wr = w) (fun _ iv _ => s.length - (intOf iv).toNat)
  case atStart => exact ⟨0, 0, rfl, rfl, by omega, by omega, Lib.hid ⟨by simp, by simp⟩, rfl⟩
  case round =>
    obtain ⟨i, n, rfl, rfl, hi, hn, hH, rfl⟩ := hrel
    by_cases hlt : i < s.length
    · have x5 : (i : Int) < (s.length : Int) := by omega
      have x7 : (0 : Int) ≤ (i : Int) := by omega
      obtain ⟨nb, hnb⟩ : ∃ n : Nat, s[i].toNat = n := ⟨_, rfl⟩
      have hb : nb < 256 := by rw [← hnb]; exact s[i].toNat_lt
      have y0 : ∀ h, (((ByteArray.mk s.toArray)[i]'h).toNat : Int) = (nb : Int) := fun h => by show ((s[i]).toNat : Int) = _; omega
      obtain ⟨h1, h2⟩ := hH.out
      by_cases hd : St.isD s[i] = true
      · have hd2 : 48 ≤ nb ∧ nb ≤ 57 := by unfold St.isD at hd; rw [hnb] at hd; simpa using hd
        obtain ⟨d, hdd⟩ : ∃ d : Nat, nb - 48 = d := ⟨_, rfl⟩
        obtain ⟨n2, hn2⟩ : ∃ n2 : Nat, (10 * n + d) % 18446744073709551616 = n2 := ⟨_, rfl⟩
        have HT := Lib.hid (⟨St.all_take s i hlt hd h1, by rw [St.fold_take s i n hlt h2, hnb, hdd, hn2]⟩ : (s.take (i + 1)).all St.isD = true ∧ (s.take (i + 1)).foldl St.natStep 0 = n2)
        have z1 : decide ((nb : Int) < 48) = false := by simp; omega
        have z2 : decide ((57 : Int) < (nb : Int)) = false := by simp; omega
        have z1' : ¬ (nb : Int) < 48 := by omega
        have z2' : ¬ (57 : Int) < (nb : Int) := by omega
        have z3 : IntKind.u8.wrap ((nb : Int) - 48) = (d : Int) := by rw [IntKind.wrap_u8]; omega
        have z4 : IntKind.u64.wrap (d : Int) = (d : Int) := by rw [IntKind.wrap_u64]; omega
        have z5 : IntKind.u64.wrap (IntKind.u64.wrap (10 * (n : Int)) + (d : Int)) = (n2 : Int) := by rw [IntKind.wrap_u64, IntKind.wrap_u64]; omega
        have z6 : n2 < 18446744073709551616 := by omega
        clear hnb h1 h2 hH hd
        go_wp2
        go_roundw
        case rel => exact ⟨i + 1, n2, by go_num, by go_num, by omega, by omega, HT, by trivial⟩
        case measure => simp [intOf] <;> omega
      · have hd3 : St.isD s[i] = false := by simpa using hd
        have HT := Lib.hid (St.rdNat_stop s i hlt hd3)
        have hd2 : nb < 48 ∨ 57 < nb := by
          unfold St.isD at hd3; rw [hnb] at hd3; simp at hd3
          by_cases h48 : 48 ≤ nb
          · exact .inr (hd3 h48)
          · exact .inl (by omega)
        clear hnb h1 h2 hH hd hd3
        rcases hd2 with hd2 | hd2
        · have z1 : decide ((nb : Int) < 48) = true := by simp; omega
          have z1' : (nb : Int) < 48 := by omega
          go_wp2
          go_ret2
          rw [← HZ.out, HT.out]
          exact ⟨rfl, rfl⟩
        · have z1 : decide ((nb : Int) < 48) = false := by simp; omega
          have z2 : decide ((57 : Int) < (nb : Int)) = true := by simp; omega
          have z1' : ¬ (nb : Int) < 48 := by omega
          have z2' : (57 : Int) < (nb : Int) := by omega
          go_wp2
          go_ret2
          rw [← HZ.out, HT.out]
          exact ⟨rfl, rfl⟩
    · have hi2 : i = s.length := by omega
      subst hi2
      have x0 : ¬ (s.length : Int) < (s.length : Int) := by omega
      obtain ⟨h1, h2⟩ := hH.out
      rw [List.take_length] at h1 h2
      have HZ2 := Lib.hid (by rw [← HZ.out]; unfold St.rdNat; rw [if_pos h1, h2] : Z = (n, !(s == []) && (Lib.decDigits n == s)))
      have HN := Lib.hid (rnat_any n hn)
      clear h1 h2 hH
      by_cases he : s = []
      · subst he
        go_wp2_with (go_at_call 60; refine (HN.out _).mono ?_; rintro e w1 ⟨rfl, rfl⟩)
        go_ret2
        rw [HZ2.out]
        exact ⟨rfl, rfl⟩
      · have hne := bne_no he
        have hbe := beq_no he
        have hq2 : (s == []) = false := by simpa using he
        go_wp2_with (go_at_call 60; refine (HN.out _).mono ?_; rintro e w1 ⟨rfl, rfl⟩)
        go_ret2
        rw [HZ2.out, hq2]
        exact ⟨rfl, rfl⟩
end Go.Proofs.YtmhmpobjjhbklaaGreatDoor
set_option linter.unusedVariables false
set_option linter.unusedSimpArgs false
namespace Go.Proofs.YtmhmpobjjhbklaaGreatDoor
open Go.RowKit
open St (InR)

theorem St.wrapI_w (n : Nat) (h : n < 18446744073709551616) : IntKind.i64.wrap (n : Int) = St.wrapI n := by
  rw [IntKind.wrap_i64]; unfold St.wrapI; split <;> omega
theorem St.negU_w (n : Nat) (h : n < 18446744073709551616) : IntKind.u64.wrap (0 - (n : Int)) = (St.negU n : Int) := by
  rw [IntKind.wrap_u64]; unfold St.negU; split <;> omega

set_option maxHeartbeats 400000 in
set_option maxRecDepth 100000 in
theorem rreadNum_any (s : St.W) (hs : s.length ≤ 1000000) (w : World) :
    Calls Tryz.prog 101 #[.string ⟨s.toArray⟩] w fun e w' => e = .returned (.tuple #[.int .i64 (St.rdNum s).1, .bool (St.rdNum s).2]) ∧ w = w' := by
  have hsz : (ByteArray.mk s.toArray).size = s.length := by simp [ByteArray.size]
  obtain ⟨Z, hZ⟩ : ∃ Z, St.rdNum s = Z := ⟨_, rfl⟩
  rw [hZ]
  unfold St.rdNum at hZ
  by_cases h : s.head? = some 45
  · rw [if_pos h] at hZ
    have hl := St.rdNat_lt s.tail
    obtain ⟨⟨n, b⟩, hR⟩ : ∃ R, St.rdNat s.tail = R := ⟨_, rfl⟩
    rw [hR] at hl hZ
    dsimp only at hl hZ
    have HC : Hid (∀ (u : St.W) (w : World), u = s.tail → Calls Tryz.prog 106 #[.string ⟨u.toArray⟩] w fun e w' => e = .returned (.tuple #[.int .u64 (n : Int), .bool b]) ∧ w = w') := Lib.hid (fun u w e => by subst e; have := rreadNat_any s.tail (by simp; omega) w; rw [hR] at this; exact this)
    have hpos : 0 < s.length := by rcases s with _ | ⟨c, r⟩ <;> simp at h ⊢
    have h45 : s[0].toNat = 45 := by rcases s with _ | ⟨c, r⟩ <;> simp at h ⊢; rw [h]; rfl
    have y0 : ∀ h, (((ByteArray.mk s.toArray)[0]'h).toNat : Int) = 45 := fun h => by show ((s[0]).toNat : Int) = _; omega
    have x1 : (0 : Int) < (s.length : Int) := by omega
    have x2 : (1 : Int) ≤ (s.length : Int) := by omega
    have m1 := St.negU_w n hl
    rw [Int.zero_sub] at m1
    have hl2 := St.negU_lt hl
    obtain ⟨q, hq⟩ : ∃ q, St.negU n = q := ⟨_, rfl⟩
    rw [hq] at m1 hZ hl2
    have m2 := St.wrapI_w q hl2
    have hx := St.wrapI_in hl2
    obtain ⟨x, hX⟩ : ∃ x, St.wrapI q = x := ⟨_, rfl⟩
    rw [hX] at m2 hZ hx
    have HN := Lib.hid (rnum_any x hx)
    have HZ := Lib.hid hZ
    clear hZ hq hX hR h h45
    cases b
    all_goals go_enter Tryz.func101, Tryz.ntmps101
    all_goals go_wp2_with (first | (go_at_call 106; with_reducible refine (HC.out _ _ (by simp; exact List.take_of_length_le (by simp))).mono ?_; rintro e w1 ⟨rfl, rfl⟩) | (go_at_call 25; with_reducible refine (HN.out _).mono ?_; rintro e w1 ⟨rfl, rfl⟩))
    all_goals go_ret2
    all_goals rw [← HZ.out]
    all_goals exact ⟨rfl, rfl⟩
  · rw [if_neg h] at hZ
    have hl := St.rdNat_lt s
    have HC := Lib.hid (rreadNat_any s hs)
    obtain ⟨⟨n, b⟩, hR⟩ : ∃ R, St.rdNat s = R := ⟨_, rfl⟩
    rw [hR] at hl HC hZ
    dsimp only at hl HC hZ
    have m2 := St.wrapI_w n hl
    have hx := St.wrapI_in hl
    obtain ⟨x, hX⟩ : ∃ x, St.wrapI n = x := ⟨_, rfl⟩
    rw [hX] at m2 hZ hx
    have HN := Lib.hid (rnum_any x hx)
    have HZ := Lib.hid hZ
    clear hZ hX hR
    rcases s with _ | ⟨c, r⟩
    · have hE : (Lib.itoa x == []) = (Lib.itoa x).isEmpty := by cases Lib.itoa x <;> rfl
      rw [hE] at HZ
      cases b
      all_goals go_enter Tryz.func101, Tryz.ntmps101
      all_goals go_wp2_with (first | (go_at_call 106; refine (HC.out _).mono ?_; rintro e w1 ⟨rfl, rfl⟩) | (go_at_call 25; with_reducible refine (HN.out _).mono ?_; rintro e w1 ⟨rfl, rfl⟩))
      all_goals go_ret2
      all_goals rw [← HZ.out]
      all_goals exact ⟨rfl, rfl⟩
    · obtain ⟨nb, hnb⟩ : ∃ n : Nat, c.toNat = n := ⟨_, rfl⟩
      have y0 : ∀ h, (((ByteArray.mk (c :: r).toArray)[0]'h).toNat : Int) = (nb : Int) := fun h => by show (c.toNat : Int) = _; omega
      have y1 : ¬ ((nb : Int) = 45) := fun e => h (by rw [List.head?_cons]; exact congrArg some (UInt8.toNat.inj (by rw [hnb]; simp; omega)))
      have y2 : ((nb : Int) == 45) = false := by rw [beq_eq_false_iff_ne]; exact y1
      have x1 : (0 : Int) < ((c :: r).length : Int) := by simp
      clear h hnb
      cases b
      all_goals go_enter Tryz.func101, Tryz.ntmps101
      all_goals go_wp2_with (first | (go_at_call 106; refine (HC.out _).mono ?_; rintro e w1 ⟨rfl, rfl⟩) | (go_at_call 25; with_reducible refine (HN.out _).mono ?_; rintro e w1 ⟨rfl, rfl⟩))
      all_goals go_ret2
      all_goals rw [← HZ.out]
      all_goals exact ⟨rfl, rfl⟩
end Go.Proofs.YtmhmpobjjhbklaaGreatDoor
set_option linter.unusedVariables false
set_option linter.unusedSimpArgs false
namespace Go.Proofs.YtmhmpobjjhbklaaGreatDoor
namespace St
def numsR : List W → List Int
  | [] => []
  | s :: l => if (rdNum s).2 then (rdNum s).1 :: numsR l else []
def oneR (l : List W) (s : W) : List W × Int := if l.head? = some s then (match l.tail with | [] => (l, 0) | u :: t => if (rdNum u).2 then (t, (rdNum u).1) else (l, 0)) else (l, 0)
def someR (l : List W) (s : W) : List W × List Int := if l.head? = some s then (l.tail.drop (numsR l.tail).length, numsR l.tail) else (l, [])
theorem numsR_len : ∀ l : List W, (numsR l).length ≤ l.length
  | [] => by simp [numsR]
  | s :: l => by
    have := numsR_len l
    unfold numsR
    split
    · simp; omega
    · simp
theorem numsR_in : ∀ l : List W, ∀ z ∈ numsR l, InR z
  | [], z, h => by simp [numsR] at h
  | s :: l, z, h => by
    unfold numsR at h
    split at h
    · rcases List.mem_cons.1 h with rfl | h
      · exact rdNum_in s
      · exact numsR_in l z h
    · simp at h
end St
open Go.RowKit
open St (InR)
theorem Sl.drop {w : World} {B : Nat} {A : Option Addr} {l : List St.W} {k c' : Nat} (hr : RdS w B A 1 encS l) (hk : k ≤ l.length) (hc : l.length - k ≤ c') {A' : Option Addr}
    (hA : l.drop k = [] ∨ ∀ g o, A = some ⟨g, o, none⟩ → A' = some ⟨g, o + k, none⟩) : SlB w B (.slice A' (l.length - k) c') (l.drop k) := by
  refine ⟨A', c', by rw [List.length_drop], ?_, by rw [List.length_drop]; exact hc⟩
  rcases hA with h | h
  · rw [h]; exact RdS.nil_
  · intro hne
    have hlt : k < l.length := by
      rcases Nat.lt_or_ge k l.length with h' | h'
      · exact h'
      · exact absurd (List.drop_of_length_le h') hne
    obtain ⟨g, o, e, hs⟩ := hr.from_ hlt
    rw [Nat.mul_one] at hs
    rw [h g o e]
    exact hs hne
theorem addr_add (g o n : Nat) : (⟨g, o, none⟩ : Addr).add n = ⟨g, o + n, none⟩ := by
  unfold Addr.add
  split
  · rename_i h; subst h; rfl
  · rfl
set_option maxHeartbeats 4000000 in
set_option maxRecDepth 100000 in
theorem rnumsB_any (v : Value) (l : List St.W) (hl : l.length ≤ 1000000) (hw : ∀ u ∈ l, u.length ≤ 1000000) (w : World) (h : Sl w v l) :
    Calls Tryz.prog 73 #[v] w fun e w' => (∃ A c, e = .returned (.slice A (St.numsR l).length c) ∧ RdZ w' (fun g => w.heap.size ≤ g) A (St.numsR l) ∧ (∀ K, K < w.heap.size → Row w' K A (St.numsR l)) ∧ (St.numsR l).length ≤ c) ∧ Below w.heap.size w w' := by
  obtain ⟨i0, hi0, hz0, hz1, hz2⟩ := info_parts info_int
  obtain ⟨A0, c0, rfl, h1, hc0⟩ := h
  obtain ⟨Z, hZ⟩ : ∃ Z, St.numsR l = Z := ⟨_, rfl⟩
  rw [hZ]
  have HZ : Hid (Z = [] ++ St.numsR (l.drop 0)) := Lib.hid (by rw [← hZ]; rfl)
  have HW := Lib.hid hw
  clear hZ hw
  go_enter Tryz.func73, Tryz.ntmps73
  go_wp2
  go_loopw [3, 4] (fun ov iv wr => ∃ (i : Nat) (A : Option Addr) (c : Nat) (zs : List Int), ov = .slice A i c ∧ iv = .int .i64 (i : Int) ∧ i ≤ l.length ∧ Hid (zs.length = i) ∧ Hid (Z = zs ++ St.numsR (l.drop i)) ∧ wr.ownsRow w.heap.size 3 1 (.slice A i c) i (zs.flatMap encZ) ∧ Below w.heap.size w wr) (fun _ iv _ => l.length - (intOf iv).toNat)
  case atStart => exact ⟨0, none, 0, [], rfl, rfl, by omega, Lib.hid rfl, HZ, World.ownsRow_nil _ _ _ _, Below.refl _ _⟩
  case round =>
    clear HZ
    obtain ⟨i, A, c, zs, rfl, rfl, hi, HL, HZ, hown, hB⟩ := hrel
    by_cases hia : i < l.length
    · obtain ⟨ga, oa, rfl, hb1, e1⟩ := (h1.below hB).get hia
      have f0 := e1 0 _ rfl
      rw [Nat.add_zero, Nat.mul_one] at f0
      have hd : l.drop i = l[i] :: l.drop (i + 1) := List.drop_eq_getElem_cons hia
      have hlw := HW.out l[i] (List.getElem_mem _)
      obtain ⟨s, hv⟩ : ∃ v, l[i] = v := ⟨_, rfl⟩
      rw [hv] at f0 hd hlw
      have hz := HZ.out
      rw [hd, St.numsR] at hz
      have HN := Lib.hid (fun W => rreadNum_any s hlw W)
      obtain ⟨⟨z, zb⟩, hF⟩ : ∃ F, St.rdNum s = F := ⟨_, rfl⟩
      rw [hF] at HN hz
      dsimp only at HN hz
      have x0 : (i : Int) < (l.length : Int) := by omega
      have x2 : (0 : Int) ≤ (i : Int) := by omega
      have HB := Lib.hid hB
      have hsz := hB.size
      clear hd hv e1 hF hB HZ hlw
      rcases zb with _ | _
      · have HZ2 : Hid (Z = zs) := Lib.hid (by rw [hz]; simp)
        clear hz
        go_wp2_with (go_at_call 101; refine (HN.out _).mono ?_; rintro e w1 ⟨rfl, rfl⟩)
        go_ret
        obtain rfl := HZ2.out
        have hlz := HL.out
        subst hlz
        exact ⟨⟨A, c, rfl, own_rdz hown, fun K hK => Row.own hown hK, (own_cap hown).1⟩, HB.out⟩
      · have HZ2 : Hid (Z = (zs ++ [z]) ++ St.numsR (l.drop (i + 1))) := Lib.hid (by rw [hz]; simp)
        clear hz
        go_wp2_with (first
          | (go_at_call 101; refine (HN.out _).mono ?_; rintro e w1 ⟨rfl, rfl⟩)
          | (at_builtin; refine app_rs Tryz.underlying37 hi0 hz0 hz1 hz2 rfl (by omega) encZ_len encZ_one _ rfl (.tmp 24) (.tmp 26) rfl w.heap.size _ i _ (by rfl) (hown.alloc _) [z] 1 1 _ rfl (by rfl) (one_int _ z) (by omega) (by omega) (by simp; omega) ?_; intro A' c' w2 hown2 hg; have HB3 := Lib.hid (vals_step hown HB.out hg); clear hg))
        go_roundw
        case rel => exact ⟨i + 1, A', c', zs ++ [z], rfl, by go_num, by omega, Lib.hid (by rw [List.length_append, HL.out]; rfl), HZ2, hown2, HB3.out⟩
        case measure => simp [intOf]; omega
    · have hi2 : i = l.length := by omega
      subst hi2
      have x0 : ¬ (l.length : Int) < (l.length : Int) := by omega
      have hz := HZ.out
      rw [List.drop_length, St.numsR, List.append_nil] at hz
      have HZ2 := Lib.hid hz
      clear hz HZ
      go_wp2
      go_ret
      obtain rfl := HZ2.out
      have hlz := HL.out
      exact ⟨⟨A, c, by rw [hlz]; rfl, own_rdz hown, fun K hK => Row.own hown hK, by rw [hlz]; exact (own_cap hown).1⟩, hB⟩
theorem rnumsR_any (v : Value) (l : List St.W) (hl : l.length ≤ 1000000) (hw : ∀ u ∈ l, u.length ≤ 1000000) (w : World) (h : Sl w v l) :
    Calls Tryz.prog 73 #[v] w fun e w' => (∃ A c, e = .returned (.slice A (St.numsR l).length c) ∧ RdZ w' (fun g => w.heap.size ≤ g) A (St.numsR l)) ∧ Below w.heap.size w w' := by
  refine (rnumsB_any v l hl hw w h).mono ?_
  rintro e w' ⟨⟨A, c, he, hz, -⟩, hb⟩
  exact ⟨⟨A, c, he, hz⟩, hb⟩
set_option maxHeartbeats 4000000 in
set_option maxRecDepth 100000 in
theorem rone_any (v : Value) (l : List St.W) (hw : ∀ u ∈ l, u.length ≤ 1000000) (s0 : St.W) (w : World) {B : Nat} (h : SlB w B v l) :
    Calls Tryz.prog 105 #[v, .string ⟨s0.toArray⟩] w fun e w' => (∃ v', e = .returned (.tuple #[v', .int .i64 (St.oneR l s0).2]) ∧ SlB w' B v' (St.oneR l s0).1) ∧ w = w' := by
  have HG := Lib.hid (rgiven_any v l s0 w h)
  have HS := Lib.hid h
  clear h
  obtain ⟨Z, hZ⟩ : ∃ Z, St.oneR l s0 = Z := ⟨_, rfl⟩
  rw [hZ]
  unfold St.oneR at hZ
  by_cases h0 : l.head? = some s0
  · rw [if_pos h0] at hZ
    have hg : St.givenR l s0 = (l.tail, true) := if_pos h0
    rw [hg] at HG
    dsimp only at HG
    have hwt : ∀ u ∈ l.tail, u.length ≤ 1000000 := fun u hu => hw u (List.mem_of_mem_tail hu)
    obtain ⟨t, ht⟩ : ∃ t, l.tail = t := ⟨_, rfl⟩
    rw [ht] at HG hZ hwt
    clear hg ht h0 hw
    rcases t with _ | ⟨u, t⟩
    · dsimp only at hZ
      have HZ := Lib.hid hZ
      clear hZ
      go_enter Tryz.func105, Tryz.ntmps105
      go_wp2_with (go_at_call 103; refine HG.out.mono ?_; rintro e w1 ⟨⟨v1, rfl, A1, c1, rfl, hr1, hc1⟩, rfl⟩)
      go_ret2
      rw [← HZ.out]
      exact ⟨⟨_, rfl, HS.out⟩, rfl⟩
    · have hlw := hwt u (by simp)
      have HN := Lib.hid (fun W => rreadNum_any u hlw W)
      obtain ⟨⟨z, zb⟩, hF⟩ : ∃ F, St.rdNum u = F := ⟨_, rfl⟩
      rw [hF] at HN
      dsimp only at HN hZ
      rw [hF] at hZ
      dsimp only at hZ
      clear hF hlw hwt
      have x0 : ¬ ((t.length : Int) + 1 = 0) := by omega
      have y0 : (((t.length : Int) + 1) == 0) = false := by rw [beq_eq_false_iff_ne]; exact x0
      rcases zb with _ | _
      · have HZ := Lib.hid hZ
        clear hZ
        go_enter Tryz.func105, Tryz.ntmps105
        go_wp2_with (first
          | (go_at_call 103; refine HG.out.mono ?_; rintro e w1 ⟨⟨v1, rfl, A1, c1, rfl, hr1, hc1⟩, rfl⟩; obtain ⟨g, o, rfl, hg, hh0⟩ := hr1.get (i := 0) (by simp); have f0 := hh0 0 _ rfl; simp only [Nat.zero_mul, Nat.add_zero, List.getElem_cons_zero] at f0; simp only [List.length_cons] at hc1)
          | (go_at_call 101; refine (HN.out _).mono ?_; rintro e w1 ⟨rfl, rfl⟩))
        go_ret2
        rw [← HZ.out]
        exact ⟨⟨_, rfl, HS.out⟩, rfl⟩
      · have HZ := Lib.hid hZ
        clear hZ HS
        go_enter Tryz.func105, Tryz.ntmps105
        go_wp2_with (first
          | (go_at_call 103; refine HG.out.mono ?_; rintro e w1 ⟨⟨v1, rfl, A1, c1, rfl, hr1, hc1⟩, rfl⟩; obtain ⟨g, o, rfl, hg, hh0⟩ := hr1.get (i := 0) (by simp); have f0 := hh0 0 _ rfl; simp only [Nat.zero_mul, Nat.add_zero, List.getElem_cons_zero] at f0; simp only [List.length_cons] at hc1; have HC := Lib.hid (fun (o' c' : Nat) (ho : t = [] ∨ o' = o + 1) (hc' : t.length ≤ c') => Sl.cut hr1 ho hc'); clear hr1 hh0)
          | (go_at_call 101; refine (HN.out _).mono ?_; rintro e w1 ⟨rfl, rfl⟩))
        all_goals go_ret2
        all_goals rw [← HZ.out]
        all_goals exact ⟨⟨_, rfl, HC.out _ _ (by first | exact .inr rfl | exact .inl (List.eq_nil_of_length_eq_zero (by omega))) (by omega)⟩, rfl⟩
  · rw [if_neg h0] at hZ
    have hg : St.givenR l s0 = (l, false) := if_neg h0
    rw [hg] at HG
    dsimp only at HG
    have HZ := Lib.hid hZ
    clear hZ hg h0
    go_enter Tryz.func105, Tryz.ntmps105
    go_wp2_with (go_at_call 103; refine HG.out.mono ?_; rintro e w1 ⟨⟨v1, rfl, A1, c1, rfl, hr1, hc1⟩, rfl⟩)
    go_ret2
    rw [← HZ.out]
    exact ⟨⟨_, rfl, HS.out⟩, rfl⟩
set_option maxHeartbeats 4000000 in
set_option maxRecDepth 100000 in
theorem rsomeB_any (v : Value) (l : List St.W) (hl : l.length ≤ 1000000) (hw : ∀ u ∈ l, u.length ≤ 1000000) (s0 : St.W) (w : World) {B : Nat} (hB : B ≤ w.heap.size) (h : SlB w B v l) :
    Calls Tryz.prog 107 #[v, .string ⟨s0.toArray⟩] w fun e w' => (∃ v' A c, e = .returned (.tuple #[v', .slice A (St.someR l s0).2.length c]) ∧ SlB w' B v' (St.someR l s0).1 ∧ RdZ w' (fun g => w.heap.size ≤ g) A (St.someR l s0).2 ∧ (∀ K, K < w.heap.size → Row w' K A (St.someR l s0).2) ∧ (St.someR l s0).2.length ≤ c) ∧ Below w.heap.size w w' := by
  have HG := Lib.hid (rgiven_any v l s0 w h)
  have HS := Lib.hid h
  clear h
  obtain ⟨Z, hZ⟩ : ∃ Z, St.someR l s0 = Z := ⟨_, rfl⟩
  rw [hZ]
  unfold St.someR at hZ
  by_cases h0 : l.head? = some s0
  · rw [if_pos h0] at hZ
    have hg : St.givenR l s0 = (l.tail, true) := if_pos h0
    rw [hg] at HG
    dsimp only at HG
    have hwt : ∀ u ∈ l.tail, u.length ≤ 1000000 := fun u hu => hw u (List.mem_of_mem_tail hu)
    have hlt : l.tail.length ≤ 1000000 := by rw [List.length_tail]; omega
    have hnl := St.numsR_len l.tail
    obtain ⟨t, ht⟩ : ∃ t, l.tail = t := ⟨_, rfl⟩
    rw [ht] at HG hZ hwt hlt hnl
    have HN := Lib.hid (fun v W h => rnumsB_any v t hlt hwt W h)
    obtain ⟨zs, hzs⟩ : ∃ z, St.numsR t = z := ⟨_, rfl⟩
    rw [hzs] at HN hZ hnl
    clear hg ht h0 hw hwt hzs
    have HZ := Lib.hid hZ
    have x1 : (zs.length : Int) ≤ (t.length : Int) := by omega
    have x2 : (0 : Int) ≤ (zs.length : Int) := by omega
    clear hZ
    go_enter Tryz.func107, Tryz.ntmps107
    go_upto_region 5 with (first
      | (go_at_call 103; refine HG.out.mono ?_; rintro e w1 ⟨⟨v1, rfl, hsl⟩, rfl⟩; have HSL := Lib.hid hsl; obtain ⟨A1, c1, rfl, -, hc1⟩ := hsl)
      | (go_at_call 73; with_reducible refine (HN.out _ _ (HSL.out.more hB)).mono ?_; rintro e w2 ⟨⟨A2, c2, rfl, hrz, hrow⟩, hb⟩; have HB := Lib.hid hb; have HRZ := Lib.hid hrz; have HRW := Lib.hid hrow; clear hb hrz hrow))
    have hsl2 := HSL.out.below (HB.out.mono hB)
    obtain ⟨A3, c3, he, hr3, hc3⟩ := hsl2
    obtain ⟨rfl, rfl⟩ : A3 = A1 ∧ c3 = c1 := by injection he with h1 h2 h3; exact ⟨h1.symm, h3.symm⟩
    have HC := Lib.hid (fun (A' : Option Addr) (c' : Nat) (hc : t.length - zs.length ≤ c') (hA : t.drop zs.length = [] ∨ ∀ g o, A3 = some ⟨g, o, none⟩ → A' = some ⟨g, o + zs.length, none⟩) => Sl.drop (A := A3) (c' := c') hr3 hnl hc (A' := A') hA)
    go_wp2
    all_goals go_ret2
    all_goals rw [← HZ.out]
    all_goals exact ⟨⟨_, A2, c2, rfl, HC.out _ _ (by omega) (by first | exact .inl (List.drop_of_length_le (by omega)) | exact .inr (fun g o e => by rw [e]; exact congrArg some (addr_add g o _))), HRZ.out, HRW.out.1, HRW.out.2⟩, HB.out⟩
  · rw [if_neg h0] at hZ
    have hg : St.givenR l s0 = (l, false) := if_neg h0
    rw [hg] at HG
    dsimp only at HG
    have HZ := Lib.hid hZ
    clear hZ hg h0
    go_enter Tryz.func107, Tryz.ntmps107
    go_wp2_with (go_at_call 103; refine HG.out.mono ?_; rintro e w1 ⟨⟨v1, rfl, A1, c1, rfl, hr1, hc1⟩, rfl⟩)
    go_ret2
    rw [← HZ.out]
    exact ⟨⟨_, none, 0, rfl, HS.out, RdT.nil_, fun K hK => Row.nil_, Nat.le_refl _⟩, Below.refl _ _⟩
theorem rsome_any (v : Value) (l : List St.W) (hl : l.length ≤ 1000000) (hw : ∀ u ∈ l, u.length ≤ 1000000) (s0 : St.W) (w : World) (h : Sl w v l) :
    Calls Tryz.prog 107 #[v, .string ⟨s0.toArray⟩] w fun e w' => (∃ v' A c, e = .returned (.tuple #[v', .slice A (St.someR l s0).2.length c]) ∧ Sl w' v' (St.someR l s0).1 ∧ RdZ w' (fun g => w.heap.size ≤ g) A (St.someR l s0).2) ∧ Below w.heap.size w w' := by
  refine (rsomeB_any v l hl hw s0 w (Nat.le_refl _) h).mono ?_
  rintro e w' ⟨⟨v', A, c, he, hs, hz, -⟩, hb⟩
  exact ⟨⟨v', A, c, he, hs.more hb.size, hz⟩, hb⟩
end Go.Proofs.YtmhmpobjjhbklaaGreatDoor
set_option linter.unusedVariables false
set_option linter.unusedSimpArgs false
namespace Go.Proofs.YtmhmpobjjhbklaaGreatDoor
namespace St
def linesGo : W → W → List W
  | cur, [] => [cur]
  | cur, b :: s => if b = 10 then cur :: linesGo [] s else linesGo (cur ++ [b]) s
theorem linesGo_next (f i : Nat) (s : W) (hf : f ≤ i) (hi : i < s.length) (hb : s[i] ≠ 10) : linesGo ((s.take i).drop f) (s.drop i) = linesGo ((s.take (i + 1)).drop f) (s.drop (i + 1)) := by
  rw [List.drop_eq_getElem_cons hi, linesGo, if_neg hb, List.take_succ_eq_append_getElem hi, List.drop_append_of_le_length (by rw [List.length_take]; omega)]
theorem linesGo_cut (f i : Nat) (s : W) (hi : i < s.length) (hb : s[i] = 10) : linesGo ((s.take i).drop f) (s.drop i) = (s.take i).drop f :: linesGo ((s.take (i + 1)).drop (i + 1)) (s.drop (i + 1)) := by
  rw [List.drop_eq_getElem_cons hi, linesGo, if_pos hb, show (s.take (i + 1)).drop (i + 1) = [] from List.drop_of_length_le (by rw [List.length_take]; omega)]
end St
open Go.RowKit
open St (InR)
attribute [local go_sem] ByteArray.extract_mk
set_option maxHeartbeats 4000000 in
set_option maxRecDepth 100000 in
theorem rreadVals_any (v : Value) (ws : List St.W) (hl : ws.length ≤ 1000000) (w : World) (h : Sl w v ws) :
    Calls Tryz.prog 33 #[v] w fun e w' => (∃ A c, e = .returned (.tuple #[.slice A (St.valsP ws).1.length c, .bool (St.valsP ws).2]) ∧ RdZ w' (fun g => w.heap.size ≤ g) A (St.valsP ws).1) ∧ Below w.heap.size w w' := by
  obtain ⟨i0, hi0, hz0, hz1, hz2⟩ := info_parts info_val
  obtain ⟨A1, c1, rfl, h1, hc1⟩ := h
  obtain ⟨Z, hZ⟩ : ∃ Z, St.valsP ws = Z := ⟨_, rfl⟩
  rw [hZ]
  have HZ := Lib.hid hZ
  clear hZ
  go_enter Tryz.func33, Tryz.ntmps33
  go_wp2
  go_loopw [4, 5] (fun ov iv wr => ∃ (i : Nat) (A : Option Addr) (c : Nat), ov = .slice A i c ∧ iv = .int .i64 (i : Int) ∧ i ≤ ws.length ∧ Hid ((ws.take i).all (fun w => (Ty.find w).2) = true) ∧ wr.ownsRow w.heap.size 51 1 (.slice A i c) i (((ws.take i).map (fun w => (Ty.find w).1)).flatMap encZ) ∧ Below w.heap.size w wr) (fun _ iv _ => ws.length - (intOf iv).toNat)
  case atStart => exact ⟨0, none, 0, rfl, rfl, by omega, Lib.hid rfl, World.ownsRow_nil _ _ _ _, Below.refl _ _⟩
  case round =>
    obtain ⟨i, A, c, rfl, rfl, hi, hall, hown, hB⟩ := hrel
    by_cases hia : i < ws.length
    · obtain ⟨ga, oa, rfl, hb1, e1⟩ := (h1.below hB).get hia
      have f0 := e1 0 _ rfl
      rw [Nat.add_zero, Nat.mul_one] at f0
      have ht2 : (ws.take (i + 1)).map (fun w => (Ty.find w).1) = (ws.take i).map (fun w => (Ty.find w).1) ++ [(Ty.find ws[i]).1] := by rw [List.take_succ_eq_append_getElem hia, List.map_append]; rfl
      have ht3 : (ws.take (i + 1)).all (fun w => (Ty.find w).2) = (Ty.find ws[i]).2 := by rw [List.take_succ_eq_append_getElem hia, List.all_append, hall.out]; simp
      have ht4 : (Ty.find ws[i]).2 = false → ws.all (fun w => (Ty.find w).2) = false := fun h => by
        rcases ha : ws.all (fun w => (Ty.find w).2) with _ | _
        · rfl
        · have := List.all_eq_true.1 ha ws[i] (List.getElem_mem _)
          rw [h] at this; cases this
      obtain ⟨s, hv⟩ : ∃ v, ws[i] = v := ⟨_, rfl⟩
      rw [hv] at f0 ht2 ht3 ht4
      have HF := Lib.hid (fun W => refFind_any s W)
      obtain ⟨F, hF⟩ : ∃ F, Ty.find s = F := ⟨_, rfl⟩
      rw [hF] at HF ht2 ht3 ht4
      obtain ⟨z, zb⟩ := F
      dsimp only at HF ht2 ht3 ht4
      have x0 : (i : Int) < (ws.length : Int) := by omega
      have x2 : (0 : Int) ≤ (i : Int) := by omega
      have HT := Lib.hid ht2
      have HT3 := Lib.hid ht3
      have HT4 := Lib.hid ht4
      have HB := Lib.hid hB
      have hsz := hB.size
      clear ht2 ht3 ht4 hv e1 hF hB
      rcases zb with _ | _
      · go_wp2_with (go_at_call 72; refine (HF.out _).mono ?_; rintro e w1 ⟨rfl, hb⟩)
        go_ret2
        obtain rfl : Z = ([], false) := by rw [← HZ.out]; unfold St.valsP; rw [if_neg]; rw [HT4.out (by simp)]; decide
        exact ⟨⟨none, 0, rfl, RdT.nil_⟩, HB.out.trans (hb.mono HB.out.size)⟩
      · go_wp2_with (first
          | (go_at_call 72; refine (HF.out _).mono ?_; rintro e w1 ⟨rfl, hb⟩; have hown1 := own_belowW hown hb; have HB2 := Lib.hid (HB.out.trans (hb.mono HB.out.size)); have hsz2 := HB2.out.size; clear hb hown)
          | (at_builtin; refine app_rs Tryz.underlying22 hi0 hz0 hz1 hz2 rfl (by omega) encZ_len encZ_one _ rfl (.tmp 24) (.tmp 26) rfl w.heap.size _ i _ (by rfl) (hown1.alloc _) [z] 1 1 _ rfl (by rfl) (one_val _ z) (by omega) (by omega) (by simp; omega) ?_; intro A' c' w2 hown2 hg; have HB3 := Lib.hid (vals_step hown1 HB2.out hg); clear hg))
        go_roundw
        case rel => exact ⟨i + 1, A', c', rfl, by go_num, by omega, HT3, by rw [HT.out]; exact hown2, HB3.out⟩
        case measure => simp [intOf]; omega
    · have hi2 : i = ws.length := by omega
      subst hi2
      have x0 : ¬ (ws.length : Int) < (ws.length : Int) := by omega
      rw [List.take_length] at hown hall
      go_wp2
      go_ret2
      obtain rfl : Z = (ws.map (fun w => (Ty.find w).1), true) := by rw [← HZ.out]; unfold St.valsP; rw [if_pos hall.out]
      have hlen : (ws.map (fun w => (Ty.find w).1)).length = ws.length := by simp
      exact ⟨⟨A, ⟨c, by rw [hlen]; rfl⟩, own_rdz hown⟩, hB⟩

set_option maxHeartbeats 4000000 in
set_option maxRecDepth 100000 in
theorem rlines_any (s : St.W) (hs : s.length ≤ 1000000) (w : World) :
    Calls Tryz.prog 30 #[.string ⟨s.toArray⟩] w fun e w' => (∃ v, e = .returned v ∧ Sl w' v (St.linesGo [] s)) ∧ Below w.heap.size w w' := by
  obtain ⟨i0, hi0, hz0, hz1, hz2⟩ := info_parts info_string
  have hsz : (ByteArray.mk s.toArray).size = s.length := by simp [ByteArray.size]
  obtain ⟨Z, hZ⟩ : ∃ Z, St.linesGo [] s = Z := ⟨_, rfl⟩
  rw [hZ]
  have HZ : Hid (Z = [] ++ St.linesGo ((s.take 0).drop 0) (s.drop 0)) := Lib.hid (by rw [← hZ]; rfl)
  clear hZ
  go_enter Tryz.func30, Tryz.ntmps30
  go_wp2
  go_loopw [3, 4, 5] (fun ov fv iv wr => ∃ (i f m : Nat) (A : Option Addr) (c : Nat) (out : List St.W), ov = .slice A m c ∧ out.length = m ∧ fv = .int .i64 (f : Int) ∧ iv = .int .i64 (i : Int) ∧ i ≤ s.length ∧ f ≤ i ∧ m ≤ i ∧ Hid (Z = out ++ St.linesGo ((s.take i).drop f) (s.drop i)) ∧ wr.ownsRow w.heap.size 9 1 (.slice A m c) m (out.flatMap encS) ∧ Below w.heap.size w wr) (fun _ _ iv _ => s.length - (intOf iv).toNat)
  case atStart => exact ⟨0, 0, 0, none, 0, [], rfl, rfl, rfl, rfl, by omega, by omega, by omega, HZ, World.ownsRow_nil _ _ _ _, Below.refl _ _⟩
  case round =>
    clear HZ
    obtain ⟨i, f, m, A, c, out, rfl, hm, rfl, rfl, hi, hf, hmi, HG, hown, hB⟩ := hrel
    have hZ := HG.out
    have x2 : (0 : Int) ≤ (f : Int) := by omega
    have x4 : (f : Int) ≤ (i : Int) := by omega
    have x7 : (0 : Int) ≤ (i : Int) := by omega
    by_cases h1 : i = s.length
    · subst h1
      rw [List.drop_length, St.linesGo, List.take_length, show s.drop f = (s.drop f).take (s.length - f) from (List.take_of_length_le (by rw [List.length_drop]; omega)).symm] at hZ
      have HT := Lib.hid hZ
      have HM := Lib.hid hm
      have HB := Lib.hid hB
      have hsz2 := hB.size
      have x0 : ¬ (s.length : Int) < (s.length : Int) := by omega
      clear hB HG hm hZ
      go_wp2_with (at_builtin; refine app_rs Tryz.underlying54 hi0 hz0 hz1 hz2 rfl (by omega) encS_len encS_one _ rfl (.tmp 25) (.tmp 29) rfl w.heap.size _ m _ (by rfl) (hown.alloc _) [(s.drop f).take (s.length - f)] 1 1 _ rfl (by rfl) (one_str _ _) (by omega) (by omega) (by simp; omega) ?_; intro A' c' w2 hown2 hg; have HB3 := Lib.hid (vals_step hown HB.out hg); clear hg)
      go_ret
      obtain rfl := HT.out
      obtain ⟨hc, -⟩ := own_cap hown2
      exact ⟨⟨_, rfl, A', c', by rw [List.length_append, HM.out]; rfl, own_rds encS_len (by omega) hown2, by rw [List.length_append, HM.out]; exact hc⟩, HB3.out⟩
    · have hlt : i < s.length := by omega
      have x5 : (i : Int) < (s.length : Int) := by omega
      obtain ⟨nb, hnb⟩ : ∃ n : Nat, s[i].toNat = n := ⟨_, rfl⟩
      have y0 : ∀ h, (((ByteArray.mk s.toArray)[i]'h).toNat : Int) = (nb : Int) := fun h => by show ((s[i]).toNat : Int) = _; omega
      by_cases h3 : s[i] = 10
      · rw [St.linesGo_cut f i s hlt h3, List.drop_take] at hZ
        have y1 : (nb : Int) = 10 := by rw [h3] at hnb; simp at hnb; omega
        clear hnb h3
        have HT := Lib.hid hZ
        have HM := Lib.hid hm
        have HB := Lib.hid hB
        have hsz2 := hB.size
        clear hB HG hm hZ
        go_wp2_with (at_builtin; refine app_rs Tryz.underlying54 hi0 hz0 hz1 hz2 rfl (by omega) encS_len encS_one _ rfl (.tmp 16) (.tmp 21) rfl w.heap.size _ m _ (by rfl) (hown.alloc _) [(s.drop f).take (i - f)] 1 1 _ rfl (by rfl) (one_str _ _) (by omega) (by omega) (by simp; omega) ?_; intro A' c' w2 hown2 hg; have HB3 := Lib.hid (vals_step hown HB.out hg); clear hg)
        go_roundw
        case rel => exact ⟨i + 1, i + 1, m + 1, A', c', out ++ [(s.drop f).take (i - f)], rfl, by rw [List.length_append, HM.out]; rfl, by go_num, by go_num, by omega, by omega, by omega, Lib.hid (by rw [HT.out]; simp), hown2, HB3.out⟩
        case measure => simp [intOf] <;> omega
      · rw [St.linesGo_next f i s hf hlt h3] at hZ
        have y1 : ¬ ((nb : Int) = 10) := fun e => h3 (UInt8.toNat.inj (by rw [hnb]; simp; omega))
        have HT := Lib.hid hZ
        have y2 : ((nb : Int) == 10) = false := by rw [beq_eq_false_iff_ne]; exact y1
        clear hnb h3 hZ HG
        go_wp2
        go_roundw
        case rel => exact ⟨i + 1, f, m, A, c, out, rfl, hm, rfl, by go_num, by omega, by omega, by omega, HT, hown, hB⟩
        case measure => simp [intOf] <;> omega
end Go.Proofs.YtmhmpobjjhbklaaGreatDoor
