/-
  Layer 51, the program's reader of words: number, spots.
-/
import Derived.Test.YtadnfekogmjieaaGreatDoorGGJ
set_option linter.unusedVariables false
set_option linter.unusedSimpArgs false
namespace Go.Proofs.YtadnfekogmjieaaGreatDoor
open Go.RowKit
open Mc (Pl Mi Mf)
theorem grown_below {K : Nat} {w w' : World} (h : Below w.heap.size w w') : w.grownBy w' (some K) := ⟨h.os, h.tape, h.output, h.size, fun b hb _ => h.block b hb⟩
def lenOf : Value → Nat
  | .slice _ n _ => n
  | _ => 0
theorem grown_then {a b c : World} {row row' : Option Nat} (h : a.grownBy b row) (k : b.grownBy c row') (hr : ∀ j, row' = some j → a.heap.size ≤ j ∨ row = some j) : a.grownBy c row := by
  have hs := h.size
  refine ⟨k.os.trans h.os, k.tape.trans h.tape, k.output.trans h.output, Nat.le_trans h.size k.size, fun i hi hne => ?_⟩
  rw [k.block i (by omega) (fun e => ?_), h.block i hi hne]
  rcases hr i e.symm with h1 | h1
  · omega
  · exact hne h1.symm
theorem RAt.grown {W W' : World} {base : Nat} {e : TypeId} {k n : Nat} {v : Value} {xs : List Value} {N K : Nat} {l : List (List UInt8)} {ok : Bool} (h : RAt W N K l ok) (ho : W.ownsRow base e k v n xs) (hN : N ≤ base) (hte : (165 : TypeId) ≠ e) (hg : W.grownBy W' v.ownBlock) : RAt W' N K l ok := by
  obtain ⟨⟨A, c, hv, hr, hc⟩, hN', wd⟩ := h
  refine ⟨⟨A, c, var_grown hv ho hte hg, hr.keep fun p hp => ?_, hc⟩, Nat.le_trans hN' hg.size, wd⟩
  refine World.cell?_of_block (hg.block _ (by omega) (fun e => ?_))
  have := ho.lt _ e.symm
  omega
theorem own_keep {W W' : World} {base : Nat} {e : TypeId} {k n : Nat} {v : Value} {xs : List Value} {N K : Nat} {l : List (List UInt8)} {ok : Bool} (h : RAt W N K l ok) (ho : W.ownsRow base e k v n xs) (hte : (165 : TypeId) ≠ e) (hg : W.grownBy W' (some K)) : W'.ownsRow base e k v n xs := by
  obtain ⟨⟨A, c, hv, hr, hc⟩, hN', wd⟩ := h
  exact ho.kept hg (.inr (own_ne_var ho hv hte))
theorem spots_step {w w1 w2 : World} {e : TypeId} {k n : Nat} {v : Value} {xs : List Value} {N K : Nat} {l : List (List UInt8)} {ok : Bool} {o : Obj} (r1 : RAt w1 N K l ok) (hown : w1.ownsRow w.heap.size e k v n xs) (hN : N ≤ w.heap.size) (hte : (165 : TypeId) ≠ e) (g01 : w.grownBy w1 (some K)) (hg : (w1.alloc o).grownBy w2 v.ownBlock) :
    RAt w2 N K l ok ∧ w.grownBy w2 (some K) :=
  ⟨(r1.below ((Below.refl _ _).alloc (Nat.le_refl _) _)).grown (hown.alloc _) hN hte hg, grown_then (g01.trans (World.grownBy_alloc _ _ _)) hg (fun j hj => .inl ((hown.alloc o).lt j hj).1)⟩

set_option maxHeartbeats 4000000 in
set_option maxRecDepth 100000 in
theorem number_any (N K : Nat) (l : List (List UInt8)) (ok : Bool) (w : World) (h : RAt w N K l ok) :
    Calls Tryz.prog 94 #[.pointer (some ⟨K, 0, none⟩)] w fun e w' => e = .returned (.int .i64 (Mc.natP (l.headD [])).1) ∧ RAt w' N K l.tail ((ok && !l.isEmpty) && (Mc.natP (l.headD [])).2) ∧ w.grownBy w' (some K) := by
  have hwl : (l.headD []).length ≤ 1000000 := by
    rcases l with _ | ⟨s, l⟩
    · simp
    · exact h.wd.2 s (by simp)
  have hlt := h.lt
  have HN := Lib.hid (word_any N K l ok w h)
  have HP := Lib.hid (fun W => lnat_any (l.headD []) 4294967295 W hwl (by omega))
  unfold Mc.natP
  obtain ⟨s1, hs1⟩ : ∃ s, l.headD [] = s := ⟨_, rfl⟩
  rw [hs1] at HN HP ⊢
  clear hs1
  obtain ⟨t1, ht1⟩ : ∃ s, l.tail = s := ⟨_, rfl⟩
  rw [ht1] at HN ⊢
  clear ht1
  obtain ⟨okk, hok⟩ : ∃ s, (ok && !l.isEmpty) = s := ⟨_, rfl⟩
  rw [hok] at HN ⊢
  clear hok
  obtain ⟨z, hz⟩ : ∃ z, Ltr.natF s1 4294967295 = z := ⟨_, rfl⟩
  rw [hz] at HP ⊢
  clear hz hwl
  obtain ⟨z, ze⟩ := z
  dsimp only at *
  clear h
  go_enter Tryz.func94, Tryz.ntmps94
  go_upto_region 2 with (first | (go_at_call 92; refine HN.out.mono ?_; rintro e w1 ⟨rfl, r1, g1⟩) | (go_at_call 91; refine (HP.out _).mono ?_; rintro e w2 ⟨rfl, q, rfl⟩; have r2 := r1.below (below_drewN _ q); have g2 := World.grownBy.trans g1 (grown_below (K := K) (below_drewN _ q))))
  clear r1 g1
  refine at_code (F := fun W => Hid (RAt W N K t1 okk) ∧ Hid (w.grownBy W (some K))) ⟨Lib.hid r2, Lib.hid g2⟩ ?_
  clear r2 g2 HN HP
  rintro w3 ⟨r3, g3⟩
  obtain ⟨A, c, hv, -⟩ := r3.out.ex
  obtain ⟨q0, q1⟩ := cells2 hv
  have hlt := hv.lt
  have hfz := hv.froz 1
  clear hv
  rcases okk with _ | _
  · go_wp2
    go_ret
    exact ⟨rfl, r3.out.setOk _, World.grownBy.trans g3.out (grown_set _ _ _ _)⟩
  · rcases hz : (ze == 0) with _ | _
    all_goals
      go_wp2
      go_ret
      exact ⟨rfl, by rw [hz]; exact r3.out.setOk _, World.grownBy.trans g3.out (grown_set _ _ _ _)⟩
theorem info_place : (Tryz.prog.info? 64).map (fun i => (i.zero, i.size, i.bytes)) = some (some (.agg #[.bool false, .int .i64 0]), 2, 16) := by kernel_rfl
def encPl (p : Pl) : List Value := [.bool p.slot, .int .i64 p.n]
theorem encPl_len (p : Pl) : (encPl p).length = 2 := rfl
theorem encPl_one (p : Pl) : ∀ u ∈ encPl p, u.oneCell' = true := by simp [encPl, Value.oneCell']
theorem one_pl (W : World) (p : Pl) : Reads (W.alloc (.cells #[.bool p.slot, .int .i64 p.n] 64)) (W.alloc (.cells #[.bool p.slot, .int .i64 p.n] 64)).heap.size 2 (some ⟨W.heap.size, 0, none⟩) 1 ([p].flatMap encPl) := block_reads (cs := #[.bool p.slot, .int .i64 p.n]) rfl (heap_alloc_new W _)
theorem ext_one (b : UInt8) (t : List UInt8) : (ByteArray.mk (b :: t).toArray).extract 1 (t.length + 1) = ⟨t.toArray⟩ := by
  apply ByteArray.ext
  simp
theorem isPl_cons {w : Mc.W} (h : Mc.isPl w = true) : ∃ b c t, w = b :: c :: t ∧ (b.toNat = 114 ∨ b.toNat ≠ 114 ∧ b.toNat = 115) ∧ (w.head? == some 115) = decide (b.toNat = 115) := by
  unfold Mc.isPl at h
  rcases w with _ | ⟨b, _ | ⟨c, t⟩⟩
  · simp at h
  · simp at h
  · refine ⟨b, c, t, rfl, ?_, ?_⟩
    · simp at h
      rcases h with rfl | rfl
      · exact .inl rfl
      · exact .inr ⟨by decide, rfl⟩
    · rw [Bool.eq_iff_iff]
      simp
      exact ⟨fun e => by rw [e]; rfl, fun e => UInt8.toNat.inj e⟩
theorem isPl_no {w : Mc.W} (h : Mc.isPl w = false) : ((w.length : Int) ≤ 1) ∨ ∃ b c t, w = b :: c :: t ∧ b.toNat ≠ 114 ∧ b.toNat ≠ 115 := by
  unfold Mc.isPl at h
  rcases w with _ | ⟨b, _ | ⟨c, t⟩⟩
  · simp
  · simp
  · refine .inr ⟨b, c, t, rfl, ?_⟩
    simp at h
    exact ⟨fun e => h.1 (UInt8.toNat.inj e), fun e => h.2 (UInt8.toNat.inj e)⟩

set_option maxHeartbeats 4000000 in
set_option maxRecDepth 100000 in
theorem spots_any (N K : Nat) (l : List (List UInt8)) (ok : Bool) (w : World) (h : RAt w N K l ok) :
    Calls Tryz.prog 96 #[.pointer (some ⟨K, 0, none⟩)] w fun e w' => ∃ A c, e = .returned (.slice A (Mc.spotsGo l ok).1.length c) ∧ w'.ownsRow w.heap.size 64 2 (.slice A (Mc.spotsGo l ok).1.length c) (Mc.spotsGo l ok).1.length ((Mc.spotsGo l ok).1.flatMap encPl) ∧ RAt w' N K (Mc.spotsGo l ok).2.l (Mc.spotsGo l ok).2.ok ∧ w.grownBy w' (some K) := by
  obtain ⟨i0, hi0, hz0, hz1, hz2⟩ := info_parts info_place
  have hlt := h.lt
  have hNw := h.le
  have hll := h.wd.1
  obtain ⟨Z, hZ⟩ : ∃ Z, Mc.spotsGo l ok = Z := ⟨_, rfl⟩
  rw [hZ]
  have HZ := Lib.hid hZ
  clear hZ
  have HWd := Lib.hid (fun (r : List (List UInt8)) (okr : Bool) W (h : RAt W N K r okr) => word_any N K r okr W h)
  have HH := Lib.hid h
  clear h
  go_enter Tryz.func96, Tryz.ntmps96
  go_wp2
  go_loopw [3] (fun ov wr => ∃ (m : Nat) (A : Option Addr) (c : Nat) (z : List Pl) (r : List (List UInt8)) (okr : Bool), ov = .slice A m c ∧ z.length = m ∧ m + r.length ≤ 1000000 ∧ m + r.length = l.length ∧ Hid (wr.ownsRow w.heap.size 64 2 (.slice A m c) m (z.flatMap encPl)) ∧ Hid (RAt wr N K r okr) ∧ Hid (w.grownBy wr (some K)) ∧ Hid (Z = (z ++ (Mc.spotsGo r okr).1, (Mc.spotsGo r okr).2))) (fun ov _ => l.length - lenOf ov)
  case atStart => exact ⟨0, none, 0, [], l, ok, rfl, rfl, by omega, by omega, Lib.hid (World.ownsRow_nil _ _ _ _), HH.out |> Lib.hid, Lib.hid (World.grownBy.refl _ _), Lib.hid (by rw [HZ.out]; rfl)⟩
  case round =>
    clear HH
    obtain ⟨m, A, c, z, r, okr, rfl, hm, hm1, hm2, hown, hR, hg, hz⟩ := hrel
    have HR := hR
    obtain ⟨⟨A1, c1, hv, hr, hc1⟩, hN1, wd⟩ := hR.out
    obtain ⟨q0, q1⟩ := cells2 hv
    have hltr := hv.lt
    rcases r with _ | ⟨s, r⟩
    · clear hv hr
      go_wp2
      go_ret
      obtain rfl : Z = (z, ⟨[], okr⟩) := by rw [hz.out]; simp [Mc.spotsGo]
      subst hm
      exact ⟨_, _, rfl, hown.out, HR.out, hg.out⟩
    · obtain ⟨g, o, rfl, hgb, h0⟩ := hr.get (i := 0) (by simp)
      have f0 := h0 0 _ rfl
      simp only [Nat.zero_mul, Nat.add_zero, List.getElem_cons_zero] at f0
      simp only [List.length_cons] at q0 hc1 hm1 hm2
      have x0 : (0 : Int) < (r.length : Int) + 1 := by omega
      have HZ2 : Hid (Mc.spotsGo (s :: r) okr = if Mc.isPl s then (⟨s.head? == some 115, (Mc.natP s.tail).1⟩ :: (Mc.spotsGo r (okr && (Mc.natP s.tail).2)).1, (Mc.spotsGo r (okr && (Mc.natP s.tail).2)).2) else ([], ⟨s :: r, okr⟩)) := Lib.hid rfl
      have hsl := wd.2 s (by simp)
      clear hv hr h0 wd
      rcases hp : Mc.isPl s with _ | _
      · obtain rfl : Z = (z, ⟨s :: r, okr⟩) := by rw [hz.out, HZ2.out, if_neg (by rw [hp]; decide)]; simp
        rcases isPl_no hp with hs | ⟨b, c2, t, rfl, hb1, hb2⟩
        · have x1 : ¬ (1 : Int) < (s.length : Int) := by omega
          clear HZ2 hp HZ
          go_wp2_with fail
          go_ret
          subst hm
          exact ⟨_, _, rfl, hown.out, HR.out, hg.out⟩
        · obtain ⟨nb, hnb⟩ : ∃ n : Nat, b.toNat = n := ⟨_, rfl⟩
          rw [hnb] at hb1 hb2
          have y0 : ∀ h, (((ByteArray.mk (b :: c2 :: t).toArray)[0]'h).toNat : Int) = (nb : Int) := fun h => by show (b.toNat : Int) = _; omega
          have hbl : (ByteArray.mk (b :: c2 :: t).toArray).size = t.length + 1 + 1 := by simp [ByteArray.size]
          have x1 : (1 : Int) < (t.length : Int) + 1 + 1 := by omega
          have y1 : ((nb : Int) == 114) = false := by rw [beq_eq_false_iff_ne]; omega
          have y2 : ((nb : Int) == 115) = false := by rw [beq_eq_false_iff_ne]; omega
          clear HZ2 hp HZ hnb
          go_wp2_with fail
          go_ret
          subst hm
          exact ⟨_, _, rfl, hown.out, HR.out, hg.out⟩
      · obtain ⟨b, c2, t, rfl, hb, hs5⟩ := isPl_cons hp
        have HZ3 : Hid (Z = ((z ++ [⟨decide (b.toNat = 115), (Mc.natP (c2 :: t)).1⟩]) ++ (Mc.spotsGo r (okr && (Mc.natP (c2 :: t)).2)).1, (Mc.spotsGo r (okr && (Mc.natP (c2 :: t)).2)).2)) := Lib.hid (by rw [hz.out, HZ2.out, if_pos hp, hs5]; simp)
        have HN := Lib.hid (fun W (h : RAt W N K ((b :: c2 :: t) :: r) okr) => HWd.out _ okr W h)
        simp only [List.headD_cons, List.tail_cons, List.isEmpty_cons, Bool.not_false, Bool.and_true] at HN
        have HP := Lib.hid (fun W => lnat_any (c2 :: t) 4294967295 W (by simp only [List.length_cons] at hsl ⊢; omega) (by omega))
        unfold Mc.natP at HZ3
        obtain ⟨⟨p, pe⟩, hP⟩ : ∃ P, Ltr.natF (c2 :: t) 4294967295 = P := ⟨_, rfl⟩
        rw [hP] at HP HZ3
        dsimp only at HP HZ3
        obtain ⟨nb, hnb⟩ : ∃ n : Nat, b.toNat = n := ⟨_, rfl⟩
        rw [hnb] at hb HZ3
        have y0 : ∀ h, (((ByteArray.mk (b :: c2 :: t).toArray)[0]'h).toNat : Int) = (nb : Int) := fun h => by show (b.toNat : Int) = _; omega
        have hbl : (ByteArray.mk (b :: c2 :: t).toArray).size = t.length + 1 + 1 := by simp [ByteArray.size]
        have x1 : (1 : Int) < (t.length : Int) + 1 + 1 := by omega
        have hqs : ∃ q : Bool, decide (nb = 115) = q ∧ ((nb : Int) == 115) = q := ⟨decide (nb = 115), rfl, by rw [Bool.eq_iff_iff]; simp; omega⟩
        obtain ⟨qs, hq1, hq2⟩ := hqs
        rw [hq1] at HZ3
        have hxt : (ByteArray.mk (b :: c2 :: t).toArray).extract 1 (t.length + 1 + 1) = ⟨(c2 :: t).toArray⟩ := ext_one b (c2 :: t)
        clear HZ2 hp HZ hnb hP hz HWd hs5 hq1 hsl
        have hnb2 : ((nb : Int) == 114) = true ∨ ((nb : Int) == 114) = false ∧ ((nb : Int) == 115) = true := by
          rcases hb with h | ⟨h1, h2⟩
          · left; rw [beq_iff_eq]; omega
          · right; exact ⟨by rw [beq_eq_false_iff_ne]; omega, by rw [beq_iff_eq]; omega⟩
        clear hb
        rcases hnb2 with y1 | ⟨y1, y2⟩
        · rcases okr with _ | _
          · simp only [Bool.false_and] at HZ3
            go_upto_region 6 with (first
              | (go_at_call 92; refine (HN.out _ HR.out).mono ?_; rintro e w1 ⟨rfl, r1, g1⟩; have hown1 := own_keep HR.out hown.out (by decide) g1; have g01 := World.grownBy.trans hg.out g1; clear g1)
              | (go_at_call 91; refine (HP.out _).mono ?_; rintro e w2 ⟨rfl, q, rfl⟩; have r2 := r1.below (below_drewN w1 q); have hown2 := own_belowW hown1 (below_drewN w1 q); have g02 := World.grownBy.trans g01 (grown_below (K := K) (below_drewN w1 q)); obtain ⟨⟨A3, c3, hv3, -⟩, -⟩ := id r2; have p1 := (cells2 hv3).2; have hf3 := hv3.froz 1; have hl3 := hv3.lt; have r3 := r2.setOk false; have hown3 := own_keep r2 hown2 (by decide) (grown_set _ K 1 (.bool false)); have g03 := World.grownBy.trans g02 (grown_set _ K 1 (.bool false)); clear hv3 r1 hown1 g01 r2 hown2 g02))
            refine at_code (F := fun W => Hid (RAt W N K r false) ∧ Hid (W.ownsRow w.heap.size 64 2 (.slice A m c) m (z.flatMap encPl)) ∧ Hid (w.grownBy W (some K))) ⟨Lib.hid r3, Lib.hid hown3, Lib.hid g03⟩ ?_
            clear r3 hown3 g03 p1 hf3 hl3 hR HR hown hg q0 q1 f0
            rintro w3 ⟨r3, hown3, g03⟩
            go_wp2_with (at_builtin; refine app_rs Tryz.underlying57 hi0 hz0 hz1 hz2 rfl (by omega) encPl_len encPl_one _ rfl (.tmp 62) (.tmp 68) rfl w.heap.size _ m _ (by rfl) (hown3.out.alloc _) [(⟨qs, p⟩ : Pl)] 1 1 _ rfl (by rfl) (one_pl _ ⟨qs, p⟩) (by omega) (by omega) (by have := g03.out.size; simp at this ⊢; omega) ?_; intro A' c' w4 hown4 hg4; obtain ⟨r4, g4⟩ := spots_step r3.out hown3.out hNw (by decide) g03.out hg4; clear hg4 r3 hown3 g03)
            go_roundw
            case rel => exact ⟨m + 1, A', c', z ++ [⟨qs, p⟩], r, false, rfl, by simp [hm], by omega, by omega, Lib.hid hown4, Lib.hid r4, Lib.hid g4, HZ3⟩
            case measure => simp [lenOf]; omega
          · simp only [Bool.true_and] at HZ3
            rcases hpe : (pe == 0) with _ | _
            · rw [hpe] at HZ3
              go_upto_region 6 with (first
                | (go_at_call 92; refine (HN.out _ HR.out).mono ?_; rintro e w1 ⟨rfl, r1, g1⟩; have hown1 := own_keep HR.out hown.out (by decide) g1; have g01 := World.grownBy.trans hg.out g1; clear g1)
                | (go_at_call 91; refine (HP.out _).mono ?_; rintro e w2 ⟨rfl, q, rfl⟩; have r2 := r1.below (below_drewN w1 q); have hown2 := own_belowW hown1 (below_drewN w1 q); have g02 := World.grownBy.trans g01 (grown_below (K := K) (below_drewN w1 q)); obtain ⟨⟨A3, c3, hv3, -⟩, -⟩ := id r2; have p1 := (cells2 hv3).2; have hf3 := hv3.froz 1; have hl3 := hv3.lt; have r3 := r2.setOk false; have hown3 := own_keep r2 hown2 (by decide) (grown_set _ K 1 (.bool false)); have g03 := World.grownBy.trans g02 (grown_set _ K 1 (.bool false)); clear hv3 r1 hown1 g01 r2 hown2 g02))
              refine at_code (F := fun W => Hid (RAt W N K r false) ∧ Hid (W.ownsRow w.heap.size 64 2 (.slice A m c) m (z.flatMap encPl)) ∧ Hid (w.grownBy W (some K))) ⟨Lib.hid r3, Lib.hid hown3, Lib.hid g03⟩ ?_
              clear r3 hown3 g03 p1 hf3 hl3 hR HR hown hg q0 q1 f0
              rintro w3 ⟨r3, hown3, g03⟩
              go_wp2_with (at_builtin; refine app_rs Tryz.underlying57 hi0 hz0 hz1 hz2 rfl (by omega) encPl_len encPl_one _ rfl (.tmp 62) (.tmp 68) rfl w.heap.size _ m _ (by rfl) (hown3.out.alloc _) [(⟨qs, p⟩ : Pl)] 1 1 _ rfl (by rfl) (one_pl _ ⟨qs, p⟩) (by omega) (by omega) (by have := g03.out.size; simp at this ⊢; omega) ?_; intro A' c' w4 hown4 hg4; obtain ⟨r4, g4⟩ := spots_step r3.out hown3.out hNw (by decide) g03.out hg4; clear hg4 r3 hown3 g03)
              go_roundw
              case rel => exact ⟨m + 1, A', c', z ++ [⟨qs, p⟩], r, false, rfl, by simp [hm], by omega, by omega, Lib.hid hown4, Lib.hid r4, Lib.hid g4, HZ3⟩
              case measure => simp [lenOf]; omega
            · rw [hpe] at HZ3
              go_upto_region 6 with (first
                | (go_at_call 92; refine (HN.out _ HR.out).mono ?_; rintro e w1 ⟨rfl, r1, g1⟩; have hown1 := own_keep HR.out hown.out (by decide) g1; have g01 := World.grownBy.trans hg.out g1; clear g1)
                | (go_at_call 91; refine (HP.out _).mono ?_; rintro e w2 ⟨rfl, q, rfl⟩; have r2 := r1.below (below_drewN w1 q); have hown2 := own_belowW hown1 (below_drewN w1 q); have g02 := World.grownBy.trans g01 (grown_below (K := K) (below_drewN w1 q)); obtain ⟨⟨A3, c3, hv3, -⟩, -⟩ := id r2; have p1 := (cells2 hv3).2; have hf3 := hv3.froz 1; have hl3 := hv3.lt; have r3 := r2.setOk true; have hown3 := own_keep r2 hown2 (by decide) (grown_set _ K 1 (.bool true)); have g03 := World.grownBy.trans g02 (grown_set _ K 1 (.bool true)); clear hv3 r1 hown1 g01 r2 hown2 g02))
              refine at_code (F := fun W => Hid (RAt W N K r true) ∧ Hid (W.ownsRow w.heap.size 64 2 (.slice A m c) m (z.flatMap encPl)) ∧ Hid (w.grownBy W (some K))) ⟨Lib.hid r3, Lib.hid hown3, Lib.hid g03⟩ ?_
              clear r3 hown3 g03 p1 hf3 hl3 hR HR hown hg q0 q1 f0
              rintro w3 ⟨r3, hown3, g03⟩
              go_wp2_with (at_builtin; refine app_rs Tryz.underlying57 hi0 hz0 hz1 hz2 rfl (by omega) encPl_len encPl_one _ rfl (.tmp 62) (.tmp 68) rfl w.heap.size _ m _ (by rfl) (hown3.out.alloc _) [(⟨qs, p⟩ : Pl)] 1 1 _ rfl (by rfl) (one_pl _ ⟨qs, p⟩) (by omega) (by omega) (by have := g03.out.size; simp at this ⊢; omega) ?_; intro A' c' w4 hown4 hg4; obtain ⟨r4, g4⟩ := spots_step r3.out hown3.out hNw (by decide) g03.out hg4; clear hg4 r3 hown3 g03)
              go_roundw
              case rel => exact ⟨m + 1, A', c', z ++ [⟨qs, p⟩], r, true, rfl, by simp [hm], by omega, by omega, Lib.hid hown4, Lib.hid r4, Lib.hid g4, HZ3⟩
              case measure => simp [lenOf]; omega
        · obtain rfl : qs = true := by rw [← hq2]; exact y2
          clear y2
          rcases okr with _ | _
          · simp only [Bool.false_and] at HZ3
            go_upto_region 6 with (first
              | (go_at_call 92; refine (HN.out _ HR.out).mono ?_; rintro e w1 ⟨rfl, r1, g1⟩; have hown1 := own_keep HR.out hown.out (by decide) g1; have g01 := World.grownBy.trans hg.out g1; clear g1)
              | (go_at_call 91; refine (HP.out _).mono ?_; rintro e w2 ⟨rfl, q, rfl⟩; have r2 := r1.below (below_drewN w1 q); have hown2 := own_belowW hown1 (below_drewN w1 q); have g02 := World.grownBy.trans g01 (grown_below (K := K) (below_drewN w1 q)); obtain ⟨⟨A3, c3, hv3, -⟩, -⟩ := id r2; have p1 := (cells2 hv3).2; have hf3 := hv3.froz 1; have hl3 := hv3.lt; have r3 := r2.setOk false; have hown3 := own_keep r2 hown2 (by decide) (grown_set _ K 1 (.bool false)); have g03 := World.grownBy.trans g02 (grown_set _ K 1 (.bool false)); clear hv3 r1 hown1 g01 r2 hown2 g02))
            refine at_code (F := fun W => Hid (RAt W N K r false) ∧ Hid (W.ownsRow w.heap.size 64 2 (.slice A m c) m (z.flatMap encPl)) ∧ Hid (w.grownBy W (some K))) ⟨Lib.hid r3, Lib.hid hown3, Lib.hid g03⟩ ?_
            clear r3 hown3 g03 p1 hf3 hl3 hR HR hown hg q0 q1 f0
            rintro w3 ⟨r3, hown3, g03⟩
            go_wp2_with (at_builtin; refine app_rs Tryz.underlying57 hi0 hz0 hz1 hz2 rfl (by omega) encPl_len encPl_one _ rfl (.tmp 62) (.tmp 68) rfl w.heap.size _ m _ (by rfl) (hown3.out.alloc _) [(⟨true, p⟩ : Pl)] 1 1 _ rfl (by rfl) (one_pl _ ⟨true, p⟩) (by omega) (by omega) (by have := g03.out.size; simp at this ⊢; omega) ?_; intro A' c' w4 hown4 hg4; obtain ⟨r4, g4⟩ := spots_step r3.out hown3.out hNw (by decide) g03.out hg4; clear hg4 r3 hown3 g03)
            go_roundw
            case rel => exact ⟨m + 1, A', c', z ++ [⟨true, p⟩], r, false, rfl, by simp [hm], by omega, by omega, Lib.hid hown4, Lib.hid r4, Lib.hid g4, HZ3⟩
            case measure => simp [lenOf]; omega
          · simp only [Bool.true_and] at HZ3
            rcases hpe : (pe == 0) with _ | _
            · rw [hpe] at HZ3
              go_upto_region 6 with (first
                | (go_at_call 92; refine (HN.out _ HR.out).mono ?_; rintro e w1 ⟨rfl, r1, g1⟩; have hown1 := own_keep HR.out hown.out (by decide) g1; have g01 := World.grownBy.trans hg.out g1; clear g1)
                | (go_at_call 91; refine (HP.out _).mono ?_; rintro e w2 ⟨rfl, q, rfl⟩; have r2 := r1.below (below_drewN w1 q); have hown2 := own_belowW hown1 (below_drewN w1 q); have g02 := World.grownBy.trans g01 (grown_below (K := K) (below_drewN w1 q)); obtain ⟨⟨A3, c3, hv3, -⟩, -⟩ := id r2; have p1 := (cells2 hv3).2; have hf3 := hv3.froz 1; have hl3 := hv3.lt; have r3 := r2.setOk false; have hown3 := own_keep r2 hown2 (by decide) (grown_set _ K 1 (.bool false)); have g03 := World.grownBy.trans g02 (grown_set _ K 1 (.bool false)); clear hv3 r1 hown1 g01 r2 hown2 g02))
              refine at_code (F := fun W => Hid (RAt W N K r false) ∧ Hid (W.ownsRow w.heap.size 64 2 (.slice A m c) m (z.flatMap encPl)) ∧ Hid (w.grownBy W (some K))) ⟨Lib.hid r3, Lib.hid hown3, Lib.hid g03⟩ ?_
              clear r3 hown3 g03 p1 hf3 hl3 hR HR hown hg q0 q1 f0
              rintro w3 ⟨r3, hown3, g03⟩
              go_wp2_with (at_builtin; refine app_rs Tryz.underlying57 hi0 hz0 hz1 hz2 rfl (by omega) encPl_len encPl_one _ rfl (.tmp 62) (.tmp 68) rfl w.heap.size _ m _ (by rfl) (hown3.out.alloc _) [(⟨true, p⟩ : Pl)] 1 1 _ rfl (by rfl) (one_pl _ ⟨true, p⟩) (by omega) (by omega) (by have := g03.out.size; simp at this ⊢; omega) ?_; intro A' c' w4 hown4 hg4; obtain ⟨r4, g4⟩ := spots_step r3.out hown3.out hNw (by decide) g03.out hg4; clear hg4 r3 hown3 g03)
              go_roundw
              case rel => exact ⟨m + 1, A', c', z ++ [⟨true, p⟩], r, false, rfl, by simp [hm], by omega, by omega, Lib.hid hown4, Lib.hid r4, Lib.hid g4, HZ3⟩
              case measure => simp [lenOf]; omega
            · rw [hpe] at HZ3
              go_upto_region 6 with (first
                | (go_at_call 92; refine (HN.out _ HR.out).mono ?_; rintro e w1 ⟨rfl, r1, g1⟩; have hown1 := own_keep HR.out hown.out (by decide) g1; have g01 := World.grownBy.trans hg.out g1; clear g1)
                | (go_at_call 91; refine (HP.out _).mono ?_; rintro e w2 ⟨rfl, q, rfl⟩; have r2 := r1.below (below_drewN w1 q); have hown2 := own_belowW hown1 (below_drewN w1 q); have g02 := World.grownBy.trans g01 (grown_below (K := K) (below_drewN w1 q)); obtain ⟨⟨A3, c3, hv3, -⟩, -⟩ := id r2; have p1 := (cells2 hv3).2; have hf3 := hv3.froz 1; have hl3 := hv3.lt; have r3 := r2.setOk true; have hown3 := own_keep r2 hown2 (by decide) (grown_set _ K 1 (.bool true)); have g03 := World.grownBy.trans g02 (grown_set _ K 1 (.bool true)); clear hv3 r1 hown1 g01 r2 hown2 g02))
              refine at_code (F := fun W => Hid (RAt W N K r true) ∧ Hid (W.ownsRow w.heap.size 64 2 (.slice A m c) m (z.flatMap encPl)) ∧ Hid (w.grownBy W (some K))) ⟨Lib.hid r3, Lib.hid hown3, Lib.hid g03⟩ ?_
              clear r3 hown3 g03 p1 hf3 hl3 hR HR hown hg q0 q1 f0
              rintro w3 ⟨r3, hown3, g03⟩
              go_wp2_with (at_builtin; refine app_rs Tryz.underlying57 hi0 hz0 hz1 hz2 rfl (by omega) encPl_len encPl_one _ rfl (.tmp 62) (.tmp 68) rfl w.heap.size _ m _ (by rfl) (hown3.out.alloc _) [(⟨true, p⟩ : Pl)] 1 1 _ rfl (by rfl) (one_pl _ ⟨true, p⟩) (by omega) (by omega) (by have := g03.out.size; simp at this ⊢; omega) ?_; intro A' c' w4 hown4 hg4; obtain ⟨r4, g4⟩ := spots_step r3.out hown3.out hNw (by decide) g03.out hg4; clear hg4 r3 hown3 g03)
              go_roundw
              case rel => exact ⟨m + 1, A', c', z ++ [⟨true, p⟩], r, true, rfl, by simp [hm], by omega, by omega, Lib.hid hown4, Lib.hid r4, Lib.hid g4, HZ3⟩
              case measure => simp [lenOf]; omega
end Go.Proofs.YtadnfekogmjieaaGreatDoor
