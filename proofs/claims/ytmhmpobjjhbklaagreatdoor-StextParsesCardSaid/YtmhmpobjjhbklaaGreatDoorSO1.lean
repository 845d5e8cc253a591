/-
  Layer 40, the program's reader of words: next, take, num, nums.
-/
import Derived.Test.YtmhmpobjjhbklaaGreatDoorSP3
set_option linter.unusedVariables false
set_option linter.unusedSimpArgs false
namespace Go.Proofs.YtmhmpobjjhbklaaGreatDoor
open Go.RowKit
open St (InR)

/-- A row of strings lies apart from a reader's block. -/
theorem RdS.far {w w' : World} {B K : Nat} {A A1 : Option Addr} {n1 c1 : Nat} {b : Bool} {t : TypeId} {l : List (List UInt8)} (h : RdS w B A 1 encS l) (hv : Var w K #[.slice A1 n1 c1, .bool b] t) (hg : w.grownBy w' (some K)) : RdS w' B A 1 encS l := fun hl => by
  obtain ⟨g, o, e, hb, hc⟩ := h hl
  have h0 : 0 < l.length := List.length_pos_iff.2 hl
  have hlt := World.block_lt_of_cell? w _ (hc 0 h0 0 _ rfl)
  have hsz := hg.size
  have hne : some g ≠ some K := fun e => by
    injection e with e
    subst e
    have := hc 0 h0 0 _ rfl
    rw [hv.cells] at this
    have hs := (Array.getElem?_eq_some_iff.1 this).1
    rcases hx : o + 0 * 1 + 0 with _ | _ | m
    · rw [hx] at this; simp at this
    · rw [hx] at this; simp at this
    · rw [hx] at hs; simp at hs; omega
  exact ⟨g, o, e, hb, fun i hi j v hj => hg.cell (hc i hi j v hj) hne⟩
structure RAt (w : World) (N K : Nat) (l : List (List UInt8)) (ok : Bool) : Prop where
  ex : ∃ A c, Var w K #[.slice A l.length c, .bool ok] 132 ∧ RdS w N A 1 encS l ∧ l.length ≤ c
  le : N ≤ w.heap.size
  wd : l.length ≤ 1000000 ∧ ∀ s ∈ l, s ≠ [] ∧ s.length ≤ 1000000
theorem grown_set (w : World) (K o : Nat) (u : Value) : w.grownBy (w.setCell ⟨K, o, none⟩ u) (some K) :=
  ⟨rfl, rfl, rfl, by simp, fun b _ hb => Below.heap_setCell _ _ _ _ (fun e => hb (by rw [e]))⟩
theorem RAt.lt {w : World} {N K : Nat} {l : List (List UInt8)} {ok : Bool} (h : RAt w N K l ok) : K < w.heap.size := by
  obtain ⟨A, c, hv, -⟩ := h.ex
  exact hv.lt
/-- A call that leaves what is there leaves the reader. -/
theorem RAt.below {w w' : World} {N K : Nat} {l : List (List UInt8)} {ok : Bool} (h : RAt w N K l ok) (hb : Below w.heap.size w w') : RAt w' N K l ok := by
  obtain ⟨⟨A, c, hv, hr, hc⟩, hN, wd⟩ := h
  exact ⟨⟨A, c, hv.below hb hv.lt, hr.below (hb.mono hN), hc⟩, Nat.le_trans hN hb.size, wd⟩
theorem RAt.setOk {w : World} {N K : Nat} {l : List (List UInt8)} {ok : Bool} (h : RAt w N K l ok) (b : Bool) : RAt (w.setCell ⟨K, 1, none⟩ (.bool b)) N K l b := by
  obtain ⟨⟨A, c, hv, hr, hc⟩, hN, wd⟩ := h
  exact ⟨⟨A, c, hv.set 1 _, hr.far hv (grown_set _ _ _ _), hc⟩, by simpa using hN, wd⟩
theorem RAt.cut {w : World} {N K g o c : Nat} {s : List UInt8} {l : List (List UInt8)} {ok : Bool} (hv : Var w K #[.slice (some ⟨g, o, none⟩) (l.length + 1) c, .bool ok] 132)
    (hr : RdS w N (some ⟨g, o, none⟩) 1 encS (s :: l)) (hN : N ≤ w.heap.size) (wd : (s :: l).length ≤ 1000000 ∧ ∀ x ∈ s :: l, x ≠ [] ∧ x.length ≤ 1000000) {o' c' : Nat} (ho : l = [] ∨ o' = o + 1) (hc : l.length ≤ c') :
    RAt (w.setCell ⟨K, 0, none⟩ (.slice (some ⟨g, o', none⟩) l.length c')) N K l ok := by
  refine ⟨⟨_, _, hv.set 0 _, ?_, hc⟩, by simpa using hN, by have := wd.1; simp at this; omega, fun x hx => wd.2 x (by simp [hx])⟩
  refine RdS.far ?_ hv (grown_set _ _ _ _)
  rcases l with _ | ⟨x, l⟩
  · exact RdS.nil_
  · obtain ⟨g', o'', e, h⟩ := hr.from_ (i := 1) (by simp)
    cases e
    rcases ho with ho | rfl
    · cases ho
    · exact h

set_option maxHeartbeats 4000000 in
set_option maxRecDepth 100000 in
/-- (*stext.reader).next. -/
theorem rnext_any (N K : Nat) (l : List (List UInt8)) (ok : Bool) (w : World) (h : RAt w N K l ok) :
    Calls Tryz.prog 97 #[.pointer (some ⟨K, 0, none⟩)] w fun e w' => e = .returned (.string ⟨(l.headD []).toArray⟩) ∧ RAt w' N K l.tail ok ∧ w.grownBy w' (some K) := by
  rcases l with _ | ⟨s, l⟩
  · have HH := Lib.hid h
    obtain ⟨⟨A, c, hv, hr, hc⟩, hN, wd⟩ := h
    obtain ⟨q0, q1⟩ := cells2 hv
    have hlt := hv.lt
    clear hv hr
    go_enter Tryz.func97, Tryz.ntmps97
    go_wp2
    go_ret
    exact ⟨rfl, HH.out, World.grownBy.refl _ _⟩
  · obtain ⟨⟨A, c, hv, hr, hc⟩, hN, wd⟩ := h
    obtain ⟨q0, q1⟩ := cells2 hv
    have hlt := hv.lt
    have hfz := hv.froz 0
    obtain ⟨g, o, rfl, hg, h0⟩ := hr.get (i := 0) (by simp)
    have f0 := h0 0 _ rfl
    simp only [Nat.zero_mul, Nat.add_zero, List.getElem_cons_zero] at f0
    have HC := Lib.hid (fun (o' c' : Nat) (ho : l = [] ∨ o' = o + 1) (hc' : l.length ≤ c') => RAt.cut hv hr hN wd ho hc')
    simp only [List.length_cons] at q0 hc
    have x0 : ¬ ((l.length : Int) + 1 = 0) := by omega
    clear hv hr wd h0
    go_enter Tryz.func97, Tryz.ntmps97
    go_wp2
    all_goals go_ret
    all_goals exact ⟨rfl, HC.out _ _ (by first | exact .inr rfl | exact .inl (List.eq_nil_of_length_eq_zero (by omega))) (by omega), grown_set _ _ _ _⟩

set_option maxHeartbeats 4000000 in
set_option maxRecDepth 100000 in
/-- (*stext.reader).take. -/
theorem rtake_any (s0 : List UInt8) (N K : Nat) (l : List (List UInt8)) (ok : Bool) (w : World) (h : RAt w N K l ok) :
    Calls Tryz.prog 94 #[.pointer (some ⟨K, 0, none⟩), .string ⟨s0.toArray⟩] w fun e w' => e = .returned (.bool (St.takeO s0 ⟨l, ok⟩).1) ∧ RAt w' N K (St.takeO s0 ⟨l, ok⟩).2.l ok ∧ w.grownBy w' (some K) := by
  rcases l with _ | ⟨s, l⟩
  · have HX : Hid (St.takeO s0 ⟨[], ok⟩ = (false, ⟨[], ok⟩)) := Lib.hid rfl
    have HH := Lib.hid h
    obtain ⟨⟨A, c, hv, hr, hc⟩, hN, wd⟩ := h
    obtain ⟨q0, q1⟩ := cells2 hv
    have hlt := hv.lt
    clear hv hr
    go_enter Tryz.func94, Tryz.ntmps94
    go_wp2
    go_ret
    rw [HX.out]
    exact ⟨rfl, HH.out, World.grownBy.refl _ _⟩
  · have HH := Lib.hid h
    obtain ⟨⟨A, c, hv, hr, hc⟩, hN, wd⟩ := h
    obtain ⟨q0, q1⟩ := cells2 hv
    have hlt := hv.lt
    have hfz := hv.froz 0
    obtain ⟨g, o, rfl, hg, h0⟩ := hr.get (i := 0) (by simp)
    have f0 := h0 0 _ rfl
    simp only [Nat.zero_mul, Nat.add_zero, List.getElem_cons_zero] at f0
    have HC := Lib.hid (fun (o' c' : Nat) (ho : l = [] ∨ o' = o + 1) (hc' : l.length ≤ c') => RAt.cut hv hr hN wd ho hc')
    simp only [List.length_cons] at q0 hc
    have x0 : ¬ ((l.length : Int) + 1 = 0) := by omega
    clear hv hr wd h0
    by_cases he : s = s0
    · subst he
      have HX : Hid (St.takeO s ⟨s :: l, ok⟩ = (true, ⟨l, ok⟩)) := Lib.hid (St.takeO_hit _ _ _)
      clear HH
      go_enter Tryz.func94, Tryz.ntmps94
      go_wp2
      all_goals go_ret
      all_goals rw [HX.out]
      all_goals exact ⟨rfl, HC.out _ _ (by first | exact .inr rfl | exact .inl (List.eq_nil_of_length_eq_zero (by omega))) (by omega), grown_set _ _ _ _⟩
    · have HX : Hid (St.takeO s0 ⟨s :: l, ok⟩ = (false, ⟨s :: l, ok⟩)) := Lib.hid (by unfold St.takeO; rw [if_neg]; simpa using he)
      have hne := bne_no he
      have hbe := beq_no he
      have hq2 : (s == s0) = false := by simpa using he
      clear HC he
      go_enter Tryz.func94, Tryz.ntmps94
      go_wp2
      go_ret
      rw [HX.out]
      exact ⟨rfl, HH.out, World.grownBy.refl _ _⟩

theorem below_grown {B : Nat} {a w w' : World} {K : Nat} (h : Below B a w) (hg : w.grownBy w' (some K)) (hB : B ≤ w.heap.size) (hK : B ≤ K) : Below B a w' := h.grown hg hB (fun k e => by cases e; exact hK)
theorem grown_below {w w' : World} {K : Nat} (h : Below w.heap.size w w') : w.grownBy w' (some K) := ⟨h.os, h.tape, h.output, h.size, fun b hb _ => h.block b hb⟩

set_option maxHeartbeats 4000000 in
set_option maxRecDepth 100000 in
/-- (*stext.reader).num. -/
theorem rdnum_any (N K : Nat) (l : List (List UInt8)) (ok : Bool) (w0 w : World) (G : Glob w0) (hB : Below w0.heap.size w0 w) (hK : w0.heap.size ≤ K) (h : RAt w N K l ok) :
    Calls Tryz.prog 98 #[.pointer (some ⟨K, 0, none⟩)] w fun e w' => e = .returned (.int .i64 (pint (l.headD [])).1) ∧ RAt w' N K l.tail (ok && (pint (l.headD [])).2) ∧ w.grownBy w' (some K) := by
  have hwl : (l.headD []).length ≤ 1000000 := by
    rcases l with _ | ⟨s, l⟩
    · simp
    · exact (h.wd.2 s (by simp)).2
  have hlt := h.lt
  have HN := Lib.hid (rnext_any N K l ok w h)
  have HP := Lib.hid (fun W (G : Glob W) => parseInt_any (l.headD []) hwl W G)
  have HB := Lib.hid hB
  have HG := Lib.hid G
  obtain ⟨s1, hs1⟩ : ∃ s, l.headD [] = s := ⟨_, rfl⟩
  rw [hs1] at HN HP ⊢
  clear hs1
  obtain ⟨t1, ht1⟩ : ∃ s, l.tail = s := ⟨_, rfl⟩
  rw [ht1] at HN ⊢
  clear ht1
  obtain ⟨z, hz⟩ : ∃ z, pint s1 = z := ⟨_, rfl⟩
  rw [hz] at HP ⊢
  clear hz hwl G
  obtain ⟨z, zb⟩ := z
  dsimp only at *
  clear h hB
  go_enter Tryz.func98, Tryz.ntmps98
  go_upto_region 2 with (first | (go_at_call 97; refine HN.out.mono ?_; rintro e w1 ⟨rfl, r1, g1⟩; have B1 := below_grown HB.out g1 HB.out.size hK) | (go_at_call 126; refine (HP.out _ (HG.out.below B1)).mono ?_; rintro e w2 ⟨⟨ev, rfl, hev⟩, hb⟩; have r2 := r1.below hb; have g2 := World.grownBy.trans g1 (grown_below hb)))
  clear r1 g1 B1 hb
  refine at_code (F := fun W => Hid (RAt W N K t1 ok) ∧ Hid (w.grownBy W (some K))) ⟨Lib.hid r2, Lib.hid g2⟩ ?_
  clear r2 g2 HN HP HB HG
  rintro w3 ⟨r3, g3⟩
  obtain ⟨A, c, hv, -⟩ := r3.out.ex
  obtain ⟨q0, q1⟩ := cells2 hv
  have hlt := hv.lt
  have hfz := hv.froz 1
  clear hv
  rcases ok with _ | _
  · go_wp2
    go_ret
    exact ⟨rfl, r3.out.setOk _, World.grownBy.trans g3.out (grown_set _ _ _ _)⟩
  · rcases zb with _ | _
    · obtain ⟨t, p, rfl⟩ := hev
      go_wp2
      go_ret
      exact ⟨rfl, r3.out.setOk _, World.grownBy.trans g3.out (grown_set _ _ _ _)⟩
    · obtain rfl := hev
      go_wp2
      go_ret
      exact ⟨rfl, r3.out.setOk _, World.grownBy.trans g3.out (grown_set _ _ _ _)⟩

theorem info_int : (Tryz.prog.info? 3).map (fun i => (i.zero, i.size, i.bytes)) = some (some (.int .i64 0), 1, 8) := by kernel_rfl
theorem one_int (W : World) (z : Int) : Reads (W.alloc (.cells #[.int .i64 z] 3)) (W.alloc (.cells #[.int .i64 z] 3)).heap.size 1 (some ⟨W.heap.size, 0, none⟩) 1 ([z].flatMap encZ) := block_reads (cs := #[.int .i64 z]) rfl (heap_alloc_new W _)
def lenOf : Value → Nat
  | .slice _ n _ => n
  | _ => 0
theorem grown_then {a b c : World} {row row' : Option Nat} (h : a.grownBy b row) (k : b.grownBy c row') (hr : ∀ j, row' = some j → a.heap.size ≤ j ∨ row = some j) : a.grownBy c row := by
  have hs := h.size
  refine ⟨k.os.trans h.os, k.tape.trans h.tape, k.output.trans h.output, Nat.le_trans h.size k.size, fun i hi hne => ?_⟩
  rw [k.block i (by omega) (fun e => ?_), h.block i hi hne]
  rcases hr i e.symm with h1 | h1
  · omega
  · exact hne h1.symm
theorem RAt.grown {W W' : World} {base : Nat} {e : TypeId} {k n : Nat} {v : Value} {xs : List Value} {N K : Nat} {l : List (List UInt8)} {ok : Bool} (h : RAt W N K l ok) (ho : W.ownsRow base e k v n xs) (hN : N ≤ base) (hte : (132 : TypeId) ≠ e) (hg : W.grownBy W' v.ownBlock) : RAt W' N K l ok := by
  obtain ⟨⟨A, c, hv, hr, hc⟩, hN', wd⟩ := h
  refine ⟨⟨A, c, var_grown hv ho hte hg, hr.keep fun p hp => ?_, hc⟩, Nat.le_trans hN' hg.size, wd⟩
  refine World.cell?_of_block (hg.block _ (by omega) (fun e => ?_))
  have := ho.lt _ e.symm
  omega
theorem own_keep {W W' : World} {base : Nat} {e : TypeId} {k n : Nat} {v : Value} {xs : List Value} {N K : Nat} {l : List (List UInt8)} {ok : Bool} (h : RAt W N K l ok) (ho : W.ownsRow base e k v n xs) (hte : (132 : TypeId) ≠ e) (hg : W.grownBy W' (some K)) : W'.ownsRow base e k v n xs := by
  obtain ⟨⟨A, c, hv, hr, hc⟩, hN', wd⟩ := h
  exact ho.kept hg (.inr (own_ne_var ho hv hte))
theorem nums_step {w w1 w2 : World} {e : TypeId} {k n : Nat} {v : Value} {xs : List Value} {N K : Nat} {l : List (List UInt8)} {ok : Bool} {o : Obj} (r1 : RAt w1 N K l ok) (hown : w1.ownsRow w.heap.size e k v n xs) (hN : N ≤ w.heap.size) (hte : (132 : TypeId) ≠ e) (g01 : w.grownBy w1 (some K)) (hg : (w1.alloc o).grownBy w2 v.ownBlock) :
    RAt w2 N K l ok ∧ w.grownBy w2 (some K) :=
  ⟨(r1.below ((Below.refl _ _).alloc (Nat.le_refl _) _)).grown (hown.alloc _) hN hte hg, grown_then (g01.trans (World.grownBy_alloc _ _ _)) hg (fun j hj => .inl ((hown.alloc o).lt j hj).1)⟩

set_option maxHeartbeats 4000000 in
set_option maxRecDepth 100000 in
/-- (*stext.reader).nums. -/
theorem rdnums_any (N K : Nat) (l : List (List UInt8)) (ok : Bool) (w0 w : World) (G : Glob w0) (hB : Below w0.heap.size w0 w) (hK : w0.heap.size ≤ K) (h : RAt w N K l ok) :
    Calls Tryz.prog 95 #[.pointer (some ⟨K, 0, none⟩)] w fun e w' => ∃ A c, e = .returned (.slice A (St.numsGo l ok).1.length c) ∧ w'.ownsRow w.heap.size 3 1 (.slice A (St.numsGo l ok).1.length c) (St.numsGo l ok).1.length ((St.numsGo l ok).1.flatMap encZ) ∧ RAt w' N K (St.numsGo l ok).2.l (St.numsGo l ok).2.ok ∧ w.grownBy w' (some K) := by
  obtain ⟨i0, hi0, hz0, hz1, hz2⟩ := info_parts info_int
  have hlt := h.lt
  have hNw := h.le
  have hll := h.wd.1
  obtain ⟨Z, hZ⟩ : ∃ Z, St.numsGo l ok = Z := ⟨_, rfl⟩
  rw [hZ]
  have HZ := Lib.hid hZ
  clear hZ
  have HNum := Lib.hid (fun (r : List (List UInt8)) (okr : Bool) W (hg : w.grownBy W (some K)) (h : RAt W N K r okr) => rdnum_any N K r okr w0 W G (below_grown hB hg hB.size hK) hK h)
  have HH := Lib.hid h
  clear h G
  go_enter Tryz.func95, Tryz.ntmps95
  go_wp2
  go_loopw [3] (fun ov wr => ∃ (m : Nat) (A : Option Addr) (c : Nat) (z : List Int) (r : List (List UInt8)) (okr : Bool), ov = .slice A m c ∧ z.length = m ∧ m + r.length ≤ 1000000 ∧ m + r.length = l.length ∧ Hid (wr.ownsRow w.heap.size 3 1 (.slice A m c) m (z.flatMap encZ)) ∧ Hid (RAt wr N K r okr) ∧ Hid (w.grownBy wr (some K)) ∧ Hid (Z = (z ++ (St.numsGo r okr).1, (St.numsGo r okr).2))) (fun ov _ => l.length - lenOf ov)
  case atStart => exact ⟨0, none, 0, [], l, ok, rfl, rfl, by omega, by omega, Lib.hid (World.ownsRow_nil _ _ _ _), HH.out |> Lib.hid, Lib.hid (World.grownBy.refl _ _), Lib.hid (by rw [HZ.out]; rfl)⟩
  case round =>
    clear HH
    obtain ⟨m, A, c, z, r, okr, rfl, hm, hm1, hm2, hown, hR, hg, hz⟩ := hrel
    have HR := hR
    obtain ⟨⟨A1, c1, hv, hr, hc1⟩, hN1, wd⟩ := hR.out
    obtain ⟨q0, q1⟩ := cells2 hv
    have hltr := hv.lt
    rcases r with _ | ⟨s, r⟩
    · clear hv hr
      go_wp2
      go_ret
      obtain rfl : Z = (z, ⟨[], okr⟩) := by rw [hz.out]; simp [St.numsGo]
      subst hm
      exact ⟨_, _, rfl, hown.out, HR.out, hg.out⟩
    · have hsne := (wd.2 s (by simp)).1
      obtain ⟨b, t, rfl⟩ : ∃ b t, s = b :: t := List.exists_cons_of_ne_nil hsne
      obtain ⟨g, o, rfl, hgb, h0⟩ := hr.get (i := 0) (by simp)
      have f0 := h0 0 _ rfl
      simp only [Nat.zero_mul, Nat.add_zero, List.getElem_cons_zero] at f0
      simp only [List.length_cons] at q0 hc1 hm1 hm2
      have x0 : (0 : Int) < (r.length : Int) + 1 := by omega
      have HZ2 : Hid (St.numsGo ((b :: t) :: r) okr = if St.dig0 (b :: t) then ((pint (b :: t)).1 :: (St.numsGo r (okr && (pint (b :: t)).2)).1, (St.numsGo r (okr && (pint (b :: t)).2)).2) else ([], ⟨(b :: t) :: r, okr⟩)) := Lib.hid rfl
      clear hv hr h0 wd hsne
      have hdg : St.dig0 (b :: t) = (b == 45 || (decide (48 ≤ b.toNat) && decide (b.toNat ≤ 57))) := rfl
      have fin : Hid (St.dig0 (b :: t) = false → Z = (z, ⟨(b :: t) :: r, okr⟩)) := Lib.hid fun hd => by rw [hz.out, HZ2.out, if_neg (by rw [hd]; decide)]; simp
      have HN := Lib.hid (fun W (hg : w.grownBy W (some K)) (h : RAt W N K ((b :: t) :: r) okr) => HNum.out _ okr W hg h)
      simp only [List.headD_cons, List.tail_cons] at HN
      have HZ3 : Hid (St.dig0 (b :: t) = true → Z = ((z ++ [(pint (b :: t)).1]) ++ (St.numsGo r (okr && (pint (b :: t)).2)).1, (St.numsGo r (okr && (pint (b :: t)).2)).2)) := Lib.hid fun hd => by rw [hz.out, HZ2.out, if_pos hd]; simp
      obtain ⟨P, hP⟩ : ∃ P, pint (b :: t) = P := ⟨_, rfl⟩
      rw [hP] at HN HZ3
      obtain ⟨p, pb⟩ := P
      dsimp only at HN HZ3
      have hbl : (ByteArray.mk (b :: t).toArray).size = t.length + 1 := by simp [ByteArray.size]
      clear HZ2 hP HNum hz
      have hcase : (b.toNat = 45 ∧ St.dig0 (b :: t) = true) ∨ (b.toNat ≠ 45 ∧ 48 ≤ b.toNat ∧ b.toNat ≤ 57 ∧ St.dig0 (b :: t) = true) ∨ (b.toNat ≠ 45 ∧ 48 ≤ b.toNat ∧ ¬ b.toNat ≤ 57 ∧ St.dig0 (b :: t) = false) ∨ (b.toNat ≠ 45 ∧ ¬ 48 ≤ b.toNat ∧ St.dig0 (b :: t) = false) := by
        rw [hdg]
        have h45 : (b == 45) = decide (b.toNat = 45) := by
          rw [Bool.eq_iff_iff, beq_iff_eq, decide_eq_true_eq]
          constructor
          · rintro rfl; rfl
          · intro h; exact UInt8.toNat.inj h
        rw [h45]
        by_cases h1 : b.toNat = 45 <;> by_cases h2 : 48 ≤ b.toNat <;> by_cases h3 : b.toNat ≤ 57 <;> simp [h1, h2, h3]
      obtain ⟨nb, hnb⟩ : ∃ n : Nat, b.toNat = n := ⟨_, rfl⟩
      rw [hnb] at hcase
      have y0 : ∀ h, (((ByteArray.mk (b :: t).toArray)[0]'h).toNat : Int) = (nb : Int) := fun h => by show (b.toNat : Int) = _; omega
      rcases hcase with ⟨c1, hd⟩ | ⟨c1, c2, c3, hd⟩ | ⟨c1, c2, c3, hd⟩ | ⟨c1, c2, hd⟩
      · have y1 : (nb : Int) = 45 := by omega
        have HZ4 := Lib.hid (HZ3.out hd)
        clear HZ3 fin hd hdg hnb
        go_wp2_with (first
          | (go_at_call 98; refine (HN.out _ hg.out HR.out).mono ?_; rintro e w1 ⟨rfl, r1, g1⟩; have hown1 := own_keep HR.out hown.out (by decide) g1; have g01 := World.grownBy.trans hg.out g1; have hs1 := g01.size)
          | (at_builtin; refine app_rs Tryz.underlying37 hi0 hz0 hz1 hz2 rfl (by omega) encZ_len encZ_one _ rfl (.tmp 40) (.tmp 43) rfl w.heap.size _ m _ (by rfl) (hown1.alloc _) [p] 1 1 _ rfl (by rfl) (one_int _ p) (by omega) (by omega) (by simp; omega) ?_; intro A' c' w2 hown2 hg2; obtain ⟨r2, g2⟩ := nums_step r1 hown1 hNw (by decide) g01 hg2; clear r1 g1 hown1 g01 hg2))
        go_roundw
        case rel => exact ⟨m + 1, A', c', z ++ [p], r, okr && pb, rfl, by simp [hm], by omega, by omega, Lib.hid hown2, Lib.hid r2, Lib.hid g2, HZ4⟩
        case measure => simp [lenOf]; omega
      · have y1 : ¬ (nb : Int) = 45 := by omega
        have y2 : (48 : Int) ≤ (nb : Int) := by omega
        have y3 : (nb : Int) ≤ 57 := by omega
        have HZ4 := Lib.hid (HZ3.out hd)
        clear HZ3 fin hd hdg hnb
        go_wp2_with (first
          | (go_at_call 98; refine (HN.out _ hg.out HR.out).mono ?_; rintro e w1 ⟨rfl, r1, g1⟩; have hown1 := own_keep HR.out hown.out (by decide) g1; have g01 := World.grownBy.trans hg.out g1; have hs1 := g01.size)
          | (at_builtin; refine app_rs Tryz.underlying37 hi0 hz0 hz1 hz2 rfl (by omega) encZ_len encZ_one _ rfl (.tmp 40) (.tmp 43) rfl w.heap.size _ m _ (by rfl) (hown1.alloc _) [p] 1 1 _ rfl (by rfl) (one_int _ p) (by omega) (by omega) (by simp; omega) ?_; intro A' c' w2 hown2 hg2; obtain ⟨r2, g2⟩ := nums_step r1 hown1 hNw (by decide) g01 hg2; clear r1 g1 hown1 g01 hg2))
        go_roundw
        case rel => exact ⟨m + 1, A', c', z ++ [p], r, okr && pb, rfl, by simp [hm], by omega, by omega, Lib.hid hown2, Lib.hid r2, Lib.hid g2, HZ4⟩
        case measure => simp [lenOf]; omega
      · have y1 : ¬ (nb : Int) = 45 := by omega
        have y2 : (48 : Int) ≤ (nb : Int) := by omega
        have y3 : ¬ (nb : Int) ≤ 57 := by omega
        obtain rfl : Z = (z, ⟨(b :: t) :: r, okr⟩) := fin.out hd
        clear HZ3 fin hd hdg HN HZ hnb
        go_wp2_with fail
        go_ret
        subst hm
        exact ⟨_, _, rfl, hown.out, HR.out, hg.out⟩
      · have y1 : ¬ (nb : Int) = 45 := by omega
        have y2 : ¬ (48 : Int) ≤ (nb : Int) := by omega
        obtain rfl : Z = (z, ⟨(b :: t) :: r, okr⟩) := fin.out hd
        clear HZ3 fin hd hdg HN HZ hnb
        go_wp2_with fail
        go_ret
        subst hm
        exact ⟨_, _, rfl, hown.out, HR.out, hg.out⟩
end Go.Proofs.YtmhmpobjjhbklaaGreatDoor
