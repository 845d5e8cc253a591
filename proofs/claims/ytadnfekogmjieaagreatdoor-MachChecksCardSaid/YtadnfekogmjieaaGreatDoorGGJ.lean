/-
  Layer 51: the reader in memory; word. (Written out of SO1.)
  Layer 51, the program: vals.
-/
import Derived.Test.YtadnfekogmjieaaGreatDoorGGF
import Derived.Test.YtadnfekogmjieaaGreatDoorGGI
set_option linter.unusedVariables false
set_option linter.unusedSimpArgs false
namespace Go.Proofs.YtadnfekogmjieaaGreatDoor
open Go.RowKit
open Mc (Pl Mi Mf)
theorem cells2 {W : World} {K : Nat} {t : TypeId} {v0 v1 : Value} (h : Var W K #[v0, v1] t) : W.cell? ⟨K, 0, none⟩ = some v0 ∧ W.cell? ⟨K, 1, none⟩ = some v1 := ⟨h.cells 0, h.cells 1⟩

theorem RdS.far {w w' : World} {B K : Nat} {A A1 : Option Addr} {n1 c1 : Nat} {b : Bool} {t : TypeId} {l : List (List UInt8)} (h : RdS w B A 1 encS l) (hv : Var w K #[.slice A1 n1 c1, .bool b] t) (hg : w.grownBy w' (some K)) : RdS w' B A 1 encS l := fun hl => by
  obtain ⟨g, o, e, hb, hc⟩ := h hl
  have h0 : 0 < l.length := List.length_pos_iff.2 hl
  have hlt := World.block_lt_of_cell? w _ (hc 0 h0 0 _ rfl)
  have hsz := hg.size
  have hne : some g ≠ some K := fun e => by
    injection e with e
    subst e
    have := hc 0 h0 0 _ rfl
    rw [hv.cells] at this
    have hs := (Array.getElem?_eq_some_iff.1 this).1
    rcases hx : o + 0 * 1 + 0 with _ | _ | m
    · rw [hx] at this; simp at this
    · rw [hx] at this; simp at this
    · rw [hx] at hs; simp at hs; omega
  exact ⟨g, o, e, hb, fun i hi j v hj => hg.cell (hc i hi j v hj) hne⟩
structure RAt (w : World) (N K : Nat) (l : List (List UInt8)) (ok : Bool) : Prop where
  ex : ∃ A c, Var w K #[.slice A l.length c, .bool ok] 165 ∧ RdS w N A 1 encS l ∧ l.length ≤ c
  le : N ≤ w.heap.size
  wd : l.length ≤ 1000000 ∧ ∀ s ∈ l, s.length ≤ 1000000
theorem RAt.lt {w : World} {N K : Nat} {l : List (List UInt8)} {ok : Bool} (h : RAt w N K l ok) : K < w.heap.size := by
  obtain ⟨A, c, hv, -⟩ := h.ex
  exact hv.lt
theorem RAt.below {w w' : World} {N K : Nat} {l : List (List UInt8)} {ok : Bool} (h : RAt w N K l ok) (hb : Below w.heap.size w w') : RAt w' N K l ok := by
  obtain ⟨⟨A, c, hv, hr, hc⟩, hN, wd⟩ := h
  exact ⟨⟨A, c, hv.below hb hv.lt, hr.below (hb.mono hN), hc⟩, Nat.le_trans hN hb.size, wd⟩
theorem RAt.setOk {w : World} {N K : Nat} {l : List (List UInt8)} {ok : Bool} (h : RAt w N K l ok) (b : Bool) : RAt (w.setCell ⟨K, 1, none⟩ (.bool b)) N K l b := by
  obtain ⟨⟨A, c, hv, hr, hc⟩, hN, wd⟩ := h
  exact ⟨⟨A, c, hv.set 1 _, hr.far hv (grown_set _ _ _ _), hc⟩, by simpa using hN, wd⟩
theorem RAt.cut {w : World} {N K g o c : Nat} {s : List UInt8} {l : List (List UInt8)} {ok : Bool} (hv : Var w K #[.slice (some ⟨g, o, none⟩) (l.length + 1) c, .bool ok] 165)
    (hr : RdS w N (some ⟨g, o, none⟩) 1 encS (s :: l)) (hN : N ≤ w.heap.size) (wd : (s :: l).length ≤ 1000000 ∧ ∀ x ∈ s :: l, x.length ≤ 1000000) {o' c' : Nat} (ho : l = [] ∨ o' = o + 1) (hc : l.length ≤ c') :
    RAt (w.setCell ⟨K, 0, none⟩ (.slice (some ⟨g, o', none⟩) l.length c')) N K l ok := by
  refine ⟨⟨_, _, hv.set 0 _, ?_, hc⟩, by simpa using hN, by have := wd.1; simp at this; omega, fun x hx => wd.2 x (by simp [hx])⟩
  refine RdS.far ?_ hv (grown_set _ _ _ _)
  rcases l with _ | ⟨x, l⟩
  · exact RdS.nil_
  · obtain ⟨g', o'', e, h⟩ := hr.from_ (i := 1) (by simp)
    cases e
    rcases ho with ho | rfl
    · cases ho
    · exact h

set_option maxHeartbeats 4000000 in
set_option maxRecDepth 100000 in
theorem word_any (N K : Nat) (l : List (List UInt8)) (ok : Bool) (w : World) (h : RAt w N K l ok) :
    Calls Tryz.prog 92 #[.pointer (some ⟨K, 0, none⟩)] w fun e w' => e = .returned (.string ⟨(l.headD []).toArray⟩) ∧ RAt w' N K l.tail (ok && !l.isEmpty) ∧ w.grownBy w' (some K) := by
  rcases l with _ | ⟨s, l⟩
  · have HH := Lib.hid h
    obtain ⟨⟨A, c, hv, hr, hc⟩, hN, wd⟩ := h
    obtain ⟨q0, q1⟩ := cells2 hv
    have hlt := hv.lt
    have hfz := hv.froz 1
    clear hv hr
    go_enter Tryz.func92, Tryz.ntmps92
    go_wp2
    go_ret
    exact ⟨rfl, by simpa using RAt.setOk HH.out false, grown_set _ _ _ _⟩
  · obtain ⟨⟨A, c, hv, hr, hc⟩, hN, wd⟩ := h
    obtain ⟨q0, q1⟩ := cells2 hv
    have hlt := hv.lt
    have hfz := hv.froz 0
    obtain ⟨g, o, rfl, hg, h0⟩ := hr.get (i := 0) (by simp)
    have f0 := h0 0 _ rfl
    simp only [Nat.zero_mul, Nat.add_zero, List.getElem_cons_zero] at f0
    have HC := Lib.hid (fun (o' c' : Nat) (ho : l = [] ∨ o' = o + 1) (hc' : l.length ≤ c') => RAt.cut hv hr hN wd ho hc')
    simp only [List.length_cons] at q0 hc
    have x0 : ¬ ((l.length : Int) + 1 = 0) := by omega
    clear hv hr wd h0
    go_enter Tryz.func92, Tryz.ntmps92
    go_wp2
    all_goals go_ret
    all_goals try rw [show (ok && !(s :: l).isEmpty) = ok by simp]
    all_goals exact ⟨rfl, HC.out _ _ (by first | exact .inr rfl | exact .inl (List.eq_nil_of_length_eq_zero (by omega))) (by omega), grown_set _ _ _ _⟩

end Go.Proofs.YtadnfekogmjieaaGreatDoor
set_option linter.unusedVariables false
set_option linter.unusedSimpArgs false
namespace Go.Proofs.YtadnfekogmjieaaGreatDoor
open Go.RowKit
open Mc (Pl Mi Mf)
theorem split_any (s sep : List UInt8) (hs : s.length ≤ 1000000) (h1 : 1 ≤ sep.length) (w : World) (G : Glob w) :
    Calls Tryz.prog 47 #[.string ⟨s.toArray⟩, .string ⟨sep.toArray⟩] w fun e w' => (∃ A, e = .returned (.slice A (Lib.split s sep).length (Lib.split s sep).length) ∧ RdS w' w'.heap.size A 1 encS (Lib.split s sep)) ∧ Below w.heap.size w w' := by
  obtain ⟨m, hm⟩ := G.mx
  have hsz : (ByteArray.mk s.toArray).size = s.length := by simp [ByteArray.size]
  have hsp : (ByteArray.mk sep.toArray).size = sep.length := by simp [ByteArray.size]
  have e2 := Lib.splitB_data ⟨sep.toArray⟩ 0 (Lib.countB ⟨s.toArray⟩ ⟨sep.toArray⟩) ⟨s.toArray⟩
  have e3 : Lib.split s sep = (Lib.splitB ⟨sep.toArray⟩ 0 (Lib.countB ⟨s.toArray⟩ ⟨sep.toArray⟩) ⟨s.toArray⟩).map (·.data.toList) := by rw [e2]; rfl
  have hlen : (Lib.split s sep).length = Lib.countB ⟨s.toArray⟩ ⟨sep.toArray⟩ + 1 := by rw [e3, List.length_map]; exact Lib.splitB_all _ (by omega) _ _ _ rfl
  refine (Tryz.strings_Split ⟨s.toArray⟩ ⟨sep.toArray⟩ m w (by omega) hm (by omega)).mono ?_
  rintro e w' ⟨rfl, rfl⟩
  rw [hlen]
  refine ⟨⟨_, rfl, block_rds encS_len ?_ (heap_alloc_new w _)⟩, (Below.refl _ _).alloc (Nat.le_refl _) _⟩
  rw [e3]
  generalize Lib.splitB _ _ _ _ = l
  induction l with
  | nil => rfl
  | cons a l ih => simp only [List.map_cons, List.flatMap_cons] at ih ⊢; rw [show encS a.data.toList = [Value.string a] from rfl]; rw [List.singleton_append, ← ih]
theorem cutPrefix_any (s p : List UInt8) (w : World) : Calls Tryz.prog 88 #[.string ⟨s.toArray⟩, .string ⟨p.toArray⟩] w fun e w' => e = .returned (.tuple #[.string ⟨(Lib.trimPrefix s p).toArray⟩, .bool (Lib.hasPrefix s p)]) ∧ w = w' :=
  (Tryz.strings_CutPrefix ⟨s.toArray⟩ ⟨p.toArray⟩ w).mono fun _ _ h => ⟨h.1, h.2.symm⟩
theorem cut_any (s p : List UInt8) (hs : s.length ≤ 1000000) (w : World) (G : Glob w) : Calls Tryz.prog 89 #[.string ⟨s.toArray⟩, .string ⟨p.toArray⟩] w fun e w' => e = .returned (.tuple #[.string ⟨(Lib.cut s p).1.toArray⟩, .string ⟨(Lib.cut s p).2.1.toArray⟩, .bool (Lib.cut s p).2.2]) ∧ Below w.heap.size w w' := by
  obtain ⟨m, hm⟩ := G.mx
  refine (Tryz.strings_Cut ⟨s.toArray⟩ ⟨p.toArray⟩ m w (by rw [mk_size]; omega) hm).mono ?_
  rintro e w' ⟨h, n, rfl⟩
  exact ⟨h, below_drewN _ _⟩
theorem valsO_form (b e : UInt8) (m : Mc.W) : Mc.valsO (b :: (m ++ [e])) = if b = 40 ∧ e = 41 then (if m = [] then ([], true) else Mc.valsP (Lib.split m [44, 32])) else ([], false) := by
  have e3 : ((b :: (m ++ [e])).take ((b :: (m ++ [e])).length - 1)).drop 1 = m := by
    rw [show (b :: (m ++ [e])).length - 1 = (b :: m).length by simp, ← List.cons_append, List.take_left]; rfl
  have e4 : (b :: (m ++ [e])).getLast? = some e := by rw [← List.cons_append, List.getLast?_concat]
  unfold Mc.valsO
  rw [e3, e4]
  by_cases h1 : b = 40
  · by_cases h2 : e = 41
    · subst h1 h2
      rw [if_neg (by simp), if_pos (show (40 : UInt8) = 40 ∧ (41 : UInt8) = 41 from ⟨rfl, rfl⟩)]
      by_cases hm : m = []
      · subst hm; rfl
      · rw [if_neg hm, if_neg]
        intro h
        injection h with _ h
        rcases m with _ | ⟨a, m⟩
        · exact hm rfl
        · have := congrArg List.length h; simp at this
    · rw [if_pos (by simp [h2]), if_neg (by simp [h2])]
  · rw [if_pos (by simp [h1]), if_neg (by simp [h1])]
theorem ends_form : ∀ s : Mc.W, 2 ≤ s.length → ∃ b m e, s = b :: (m ++ [e])
  | b :: c :: t, _ => ⟨b, (c :: t).dropLast, (c :: t).getLast (by simp), by rw [List.dropLast_concat_getLast]⟩
  | [], h => by simp at h
  | [b], h => by simp at h
theorem ext_mid (b e : UInt8) (m : List UInt8) : (ByteArray.mk (b :: (m ++ [e])).toArray).extract 1 (m.length + 1) = ⟨m.toArray⟩ := by
  apply ByteArray.ext
  simp

set_option maxHeartbeats 4000000 in
set_option maxRecDepth 100000 in
theorem mvals_any (s : Mc.W) (hs : s.length ≤ 900000) (w : World) (G : Glob w) :
    Calls Tryz.prog 90 #[.string ⟨s.toArray⟩] w fun e w' => (∃ A c, e = .returned (.tuple #[.slice A (Mc.valsO s).1.length c, .bool (Mc.valsO s).2]) ∧ RdZ w' (fun g => w.heap.size ≤ g) A (Mc.valsO s).1) ∧ Below w.heap.size w w' := by
  obtain ⟨i0, hi0, hz0, hz1, hz2⟩ := info_parts info_val
  by_cases h2 : s.length < 2
  · have hv : Mc.valsO s = ([], false) := by unfold Mc.valsO; rw [if_pos (.inl h2)]
    rw [hv]
    have x0 : (s.length : Int) < 2 := by omega
    clear hv
    go_enter Tryz.func90, Tryz.ntmps90
    go_wp2
    go_ret2
    first | exact ⟨⟨none, 0, rfl, RdT.nil_⟩, Below.refl _ _⟩ | exact ⟨⟨none, ⟨0, rfl⟩, RdT.nil_⟩, Below.refl _ _⟩
  · obtain ⟨b, m, e, rfl⟩ := ends_form s (by omega)
    have HF := Lib.hid (valsO_form b e m)
    obtain ⟨R, hR⟩ : ∃ R, Mc.valsO (b :: (m ++ [e])) = R := ⟨_, rfl⟩
    rw [hR] at HF ⊢
    clear hR
    have hml : m.length ≤ 900000 := by simp at hs; omega
    have HS := Lib.hid (fun W (G : Glob W) => split_any m [44, 32] (by omega) (by simp) W G)
    have hbl : (ByteArray.mk (b :: (m ++ [e])).toArray).size = m.length + 1 + 1 := by simp [ByteArray.size]
    have hxt := ext_mid b e m
    obtain ⟨nb, hnb⟩ : ∃ n : Nat, b.toNat = n := ⟨_, rfl⟩
    obtain ⟨ne, hne⟩ : ∃ n : Nat, e.toNat = n := ⟨_, rfl⟩
    have y0 : ∀ h, (((ByteArray.mk (b :: (m ++ [e])).toArray)[0]'h).toNat : Int) = (nb : Int) := fun h => by show (b.toNat : Int) = _; omega
    have y1 : ∀ h, (((ByteArray.mk (b :: (m ++ [e])).toArray)[m.length + 1]'h).toNat : Int) = (ne : Int) := fun h => by rw [lba_get (b :: (m ++ [e])) (m.length + 1) (by simp) e (by simp)]; omega
    have x0 : ¬ (m.length : Int) + 1 + 1 < 2 := by omega
    have hb40 : ((nb : Int) != 40) = !decide (b = 40) := by
      rw [Bool.eq_iff_iff]; simp
      constructor
      · intro h h2; subst h2; exact h (by rw [← hnb]; rfl)
      · intro h h2; exact h (UInt8.toNat.inj (by rw [hnb]; show nb = 40; omega))
    have he41 : ((ne : Int) != 41) = !decide (e = 41) := by
      rw [Bool.eq_iff_iff]; simp
      constructor
      · intro h h2; subst h2; exact h (by rw [← hne]; rfl)
      · intro h h2; exact h (UInt8.toNat.inj (by rw [hne]; show ne = 41; omega))
    have HG := Lib.hid G
    clear G hs h2 hnb hne
    by_cases hb : b = 40
    case neg =>
      rw [show (!decide (b = 40)) = true by simp [hb]] at hb40
      obtain rfl : R = ([], false) := by rw [HF.out, if_neg (fun h => hb h.1)]
      clear HF HS hb y1 he41
      go_enter Tryz.func90, Tryz.ntmps90
      go_wp2
      go_ret2
      first | exact ⟨⟨none, 0, rfl, RdT.nil_⟩, Below.refl _ _⟩ | exact ⟨⟨none, ⟨0, rfl⟩, RdT.nil_⟩, Below.refl _ _⟩
    rw [show (!decide (b = 40)) = false by simp [hb]] at hb40
    by_cases he : e = 41
    case neg =>
      rw [show (!decide (e = 41)) = true by simp [he]] at he41
      obtain rfl : R = ([], false) := by rw [HF.out, if_neg (fun h => he h.2)]
      clear HF HS he hb
      go_enter Tryz.func90, Tryz.ntmps90
      go_wp2
      go_ret2
      first | exact ⟨⟨none, 0, rfl, RdT.nil_⟩, Below.refl _ _⟩ | exact ⟨⟨none, ⟨0, rfl⟩, RdT.nil_⟩, Below.refl _ _⟩
    rw [show (!decide (e = 41)) = false by simp [he]] at he41
    have hR := HF.out
    rw [if_pos ⟨hb, he⟩] at hR
    clear HF
    by_cases hm : m = []
    · subst hm hb he
      rw [if_pos rfl] at hR
      obtain rfl := hR
      clear HS hxt hml
      go_enter Tryz.func90, Tryz.ntmps90
      go_wp2
      go_ret2
      first | exact ⟨⟨none, 0, rfl, RdT.nil_⟩, Below.refl _ _⟩ | exact ⟨⟨none, ⟨0, rfl⟩, RdT.nil_⟩, Below.refl _ _⟩
    rw [if_neg hm] at hR
    have hq0 : (b :: (m ++ [e]) : List UInt8) ≠ [40, 41] := fun h => by
      injection h with _ h
      rcases m with _ | ⟨a, m⟩
      · exact hm rfl
      · have := congrArg List.length h; simp at this
    have hq := beq_no hq0
    have hq2 : ((b :: (m ++ [e]) : List UInt8) == [40, 41]) = false := by simpa using hq0
    obtain ⟨ws, hws⟩ : ∃ ws, Lib.split m [44, 32] = ws := ⟨_, rfl⟩
    have hwl : ws.length ≤ 1000000 := by rw [← hws]; have := Mc.split_len m [44, 32] (by simp); omega
    rw [hws] at HS hR
    have HZ := Lib.hid hR.symm
    clear hR hws hq0 hb he hm
    go_enter Tryz.func90, Tryz.ntmps90
    go_wp2_with (go_at_call 47; refine (HS.out _ HG.out).mono ?_; rintro e w0 ⟨⟨A1, rfl, h1⟩, hb0⟩)
    have HB0 := Lib.hid hb0
    clear HS HG hb0 y0 y1 hb40 he41 hq hq2 hbl hxt
    go_loopw [4, 34] (fun ov iv wr => ∃ (i : Nat) (A : Option Addr) (c : Nat), ov = .slice A i c ∧ iv = .int .i64 (i : Int) ∧ i ≤ ws.length ∧ Hid ((ws.take i).all (fun w => (Ty.find w).2) = true) ∧ wr.ownsRow w0.heap.size 68 1 (.slice A i c) i (((ws.take i).map (fun w => (Ty.find w).1)).flatMap encZ) ∧ Below w0.heap.size w0 wr) (fun _ iv _ => ws.length - (intOf iv).toNat)
    case atStart => exact ⟨0, none, 0, rfl, rfl, by omega, Lib.hid rfl, World.ownsRow_nil _ _ _ _, Below.refl _ _⟩
    case round =>
      obtain ⟨i, A, c, rfl, rfl, hi, hall, hown, hB⟩ := hrel
      by_cases hia : i < ws.length
      · obtain ⟨ga, oa, rfl, hb1, e1⟩ := (h1.below hB).get hia
        have f0 := e1 0 _ rfl
        rw [Nat.add_zero, Nat.mul_one] at f0
        have ht2 : (ws.take (i + 1)).map (fun w => (Ty.find w).1) = (ws.take i).map (fun w => (Ty.find w).1) ++ [(Ty.find ws[i]).1] := by rw [List.take_succ_eq_append_getElem hia, List.map_append]; rfl
        have ht3 : (ws.take (i + 1)).all (fun w => (Ty.find w).2) = (Ty.find ws[i]).2 := by rw [List.take_succ_eq_append_getElem hia, List.all_append, hall.out]; simp
        have ht4 : (Ty.find ws[i]).2 = false → ws.all (fun w => (Ty.find w).2) = false := fun h => by
          rcases ha : ws.all (fun w => (Ty.find w).2) with _ | _
          · rfl
          · have := List.all_eq_true.1 ha ws[i] (List.getElem_mem _)
            rw [h] at this; cases this
        obtain ⟨s, hv⟩ : ∃ v, ws[i] = v := ⟨_, rfl⟩
        rw [hv] at f0 ht2 ht3 ht4
        have HF := Lib.hid (fun W => find_any s W)
        obtain ⟨F, hF⟩ : ∃ F, Ty.find s = F := ⟨_, rfl⟩
        rw [hF] at HF ht2 ht3 ht4
        obtain ⟨z, zb⟩ := F
        dsimp only at HF ht2 ht3 ht4
        have x0 : (i : Int) < (ws.length : Int) := by omega
        have x2 : (0 : Int) ≤ (i : Int) := by omega
        have HT := Lib.hid ht2
        have HT3 := Lib.hid ht3
        have HT4 := Lib.hid ht4
        have HB := Lib.hid hB
        have hsz := hB.size
        clear ht2 ht3 ht4 hv e1 hF hB
        rcases zb with _ | _
        · go_wp2_with (go_at_call 134; refine (HF.out _).mono ?_; rintro e w1 ⟨rfl, rfl⟩)
          go_ret2
          obtain rfl : R = ([], false) := by rw [← HZ.out]; unfold Mc.valsP; rw [if_neg]; rw [HT4.out (by simp)]; decide
          first | exact ⟨⟨none, 0, rfl, RdT.nil_⟩, HB0.out.trans (HB.out.mono HB0.out.size)⟩ | exact ⟨⟨none, ⟨0, rfl⟩, RdT.nil_⟩, HB0.out.trans (HB.out.mono HB0.out.size)⟩
        · go_wp2_with (first
            | (go_at_call 134; refine (HF.out _).mono ?_; rintro e w1 ⟨rfl, rfl⟩)
            | (at_builtin; refine app_rs Tryz.underlying34 hi0 hz0 hz1 hz2 rfl (by omega) encZ_len encZ_one _ rfl (.tmp 45) (.tmp 47) rfl w0.heap.size _ i _ (by rfl) (hown.alloc _) [z] 1 1 _ rfl (by rfl) (one_val _ z) (by omega) (by omega) (by simp; omega) ?_; intro A' c' w2 hown2 hg; have HB3 := Lib.hid (vals_step hown HB.out hg); clear hg))
          go_roundw
          case rel => exact ⟨i + 1, A', c', rfl, by go_num, by omega, HT3, by rw [HT.out]; exact hown2, HB3.out⟩
          case measure => simp [intOf]; omega
      · have hi2 : i = ws.length := by omega
        subst hi2
        have x0 : ¬ (ws.length : Int) < (ws.length : Int) := by omega
        rw [List.take_length] at hown hall
        go_wp2
        go_ret2
        obtain rfl : R = (ws.map (fun w => (Ty.find w).1), true) := by rw [← HZ.out]; unfold Mc.valsP; rw [if_pos hall.out]
        have hlen : (ws.map (fun w => (Ty.find w).1)).length = ws.length := by simp
        exact ⟨⟨A, ⟨c, by rw [hlen]; rfl⟩, (own_rdz hown).mono (fun g _ h => Nat.le_trans HB0.out.size h)⟩, HB0.out.trans (hB.mono HB0.out.size)⟩
end Go.Proofs.YtadnfekogmjieaaGreatDoor
