/-
  Layer 51, the reference: Parse. (Printed by gen_mt6.py.)
-/
import Derived.Test.YtadnfekogmjieaaGreatDoorFMT4
import Derived.Test.YtadnfekogmjieaaGreatDoorFMT5
import Derived.Test.YtadnfekogmjieaaGreatDoorFMQ7
import Derived.Deep.Cut
set_option linter.unusedVariables false
set_option linter.unusedSimpArgs false
namespace Go.Proofs.YtadnfekogmjieaaGreatDoor
open Go.RowKit
open Mc (Pl Mi Mf)
theorem wQ64 {n : Nat} (h : n ≤ 10000) : wrap64 (n : Int) = (n : Int) := by unfold wrap64; omega
theorem wQi {n : Nat} (h : n ≤ 10000) : IntKind.i64.wrap (n : Int) = (n : Int) := by rw [IntKind.wrap_i64]; omega
theorem wQs {n : Nat} (h : n ≤ 10000) : IntKind.i64.wrap ((n : Int) + 1) = (n : Int) + 1 := by rw [IntKind.wrap_i64]; omega
set_option maxHeartbeats 16000000 in
set_option maxRecDepth 100000 in
/-- Parse. -/
theorem rparse_any (s : Mc.W) (hs : s.length ≤ 2000) (w : World) :
    Calls Tryz.prog 20 #[.string ⟨s.toArray⟩] w fun e w' => POut w.heap.size (Mc.rparse s) e w' ∧ Below w.heap.size w w' := by
  obtain ⟨zI, bI, hinfo, hzs, hbb⟩ := info_mi
  obtain ⟨i0, hi0, hz0, hz1, hz2⟩ := info_parts hinfo
  have HS := Lib.hid (fun W => rsplit_any s 10 (by omega) W)
  have hLl := Mc.cuts_len 10 s
  have hLw := Mc.cuts_word 10 s
  have hLn : Mc.cuts 10 s ≠ [] := Mc.cutsGo_ne 10 s []
  obtain ⟨R, hR⟩ : ∃ x, Mc.rparse s = x := ⟨_, rfl⟩
  rw [hR]
  unfold Mc.rparse at hR
  obtain ⟨L, hL⟩ : ∃ x, Mc.cuts 10 s = x := ⟨_, rfl⟩
  rw [hL] at hLl hLw hLn hR
  simp only [hL] at HS
  clear hL
  obtain ⟨hd, Ls, rfl⟩ := List.exists_cons_of_ne_nil hLn
  rw [List.headD_cons, List.tail_cons] at hR
  have hhd := hLw hd (by simp)
  have HH := Lib.hid (fun W => rbegins_any hd (by omega) W)
  obtain ⟨⟨⟨⟨ps, rs⟩, sl⟩, hb0⟩, e1⟩ : ∃ x, Mc.rheadP hd = x := ⟨_, rfl⟩
  rw [e1] at HH hR
  dsimp only at hR
  have HI := Lib.hid (fun (u : Mc.W) (hu : u ∈ hd :: Ls) W => rread_any u (by have := hLw u hu; omega) W)
  have HR := Lib.hid hR.symm
  simp only [List.length_cons] at hLl
  clear hR hLn e1 hLw hhd
  have HB0 := Lib.hid ((Below.refl w.heap.size w).alloc (Nat.le_refl _) (.cells #[.slice none 0 0, .slice none 0 0, .int .i64 0, .slice none 0 0] 39))
  go_enter Tryz.func20, Tryz.ntmps20
  go_upto_region 3 with (first
    | (go_at_call 50; refine (HS.out _).mono ?_; rintro e w1 ⟨⟨A0, c0, rfl, hrd⟩, hb⟩; have v1 := (Var.new w #[.slice none 0 0, .slice none 0 0, .int .i64 0, .slice none 0 0] 39).below hb (by simp); have b1 := HB0.out.trans (hb.mono (by simp)); have hk1 : w.heap.size + 1 ≤ w1.heap.size := (by have := hb.size; simp at this; omega); obtain ⟨g, o, rfl, hg, h0⟩ := hrd.get (i := 0) (by simp); have f0 := h0 0 _ rfl; simp only [Nat.zero_mul, Nat.add_zero, List.getElem_cons_zero] at f0; simp only [List.length_cons]; clear h0 hb)
    | (go_at_call 51; refine (HH.out _).mono ?_; rintro e w2 ⟨⟨A, c, B, d, rfl, r1, r2⟩, hb⟩; unfold hdV; dsimp only at r1 r2 ⊢))
  have b2 := b1.trans (hb.mono b1.size)
  have hkf : w1.heap.size ≤ w2.heap.size := hb.size
  have ha := (Below.refl w2.heap.size w2).alloc (Nat.le_refl _) (.cells #[.slice A ps.length c, .slice B rs.length d, .int .i64 sl, .slice none 0 0] 39)
  have hf0 : PSt w (w2.alloc (.cells #[.slice A ps.length c, .slice B rs.length d, .int .i64 sl, .slice none 0 0] 39)) w.heap.size w2.heap.size (fun k => w1.heap.size ≤ k ∧ k < w2.heap.size) A c B d none 0 ps rs sl [] :=
    ⟨b2.alloc b2.size _, var_keep (var_keep v1 hb) ha, Var.new _ _ _, (r1.mono fun k h1 h2 => ⟨h2, h1⟩).on ha, (r2.mono fun k h1 h2 => ⟨h2, h1⟩).on ha, World.ownsRow_nil _ _ _ _, by simp, by omega, by omega, fun j hj => (by cases hj), fun k hk => ⟨by omega, by have := hk.2; simp; omega⟩, Nat.le_refl _, by omega⟩
  have hl0 : RdS (w2.alloc (.cells #[.slice A ps.length c, .slice B rs.length d, .int .i64 sl, .slice none 0 0] 39)) w2.heap.size (some ⟨g, o, none⟩) 1 encS (hd :: Ls) := ((hrd.below hb).more hkf).below ha
  refine at_code (F := fun W => PSt w W w.heap.size w2.heap.size (fun k => w1.heap.size ≤ k ∧ k < w2.heap.size) A c B d none 0 ps rs sl [] ∧ RdS W w2.heap.size (some ⟨g, o, none⟩) 1 encS (hd :: Ls)) ⟨hf0, hl0⟩ ?_
  clear hf0 hl0 ha b2 r1 r2 hb b1 v1 hrd f0 hg HS HB0 HH
  obtain ⟨S, hS⟩ : ∃ S, (fun k => w1.heap.size ≤ k ∧ k < w2.heap.size) = S := ⟨_, rfl⟩
  rw [hS]
  obtain ⟨Kf, hKf⟩ : ∃ K, w2.heap.size = K := ⟨_, rfl⟩
  simp only [hKf]
  clear hS hKf hkf hk1
  rintro W ⟨HP, hrd⟩
  obtain ⟨⟨z0, z1, z2, z3⟩, y0, y1, y2, y3⟩ := cells4' HP.res
  have hltr := HP.res.lt
  rcases hb0 with _ | _
  · have HRR : Hid (R = (Mc.mf0, 1, 4)) := Lib.hid (by rw [HR.out, if_neg (by simp)])
    clear HR HI
    have HPH := Lib.hid HP
    clear HP
    go_wp2_with fail
    have hp4 := put4 HPH.out.res (.slice none 0 0) (.slice none 0 0) (.int .i64 0) (.slice none 0 0)
    refine bodyPost_ret (results_cell_2 rfl _ _ w.heap.size _ _ (0, 0) _ rfl hp4.1 Tryz.underlying39 rfl (by kernel_rfl)) rfl ?_
    obtain rfl := HRR.out
    exact ⟨⟨none, 0, none, 0, none, 0, rfl, mf0_at _ _⟩, below_grown HPH.out.bel hp4.2 HPH.out.bel.size (Nat.le_refl _)⟩
  rcases Ls with _ | ⟨l0, Lt⟩
  · have HRR : Hid (R = (Mc.mf0, 1, 4)) := Lib.hid (by rw [HR.out, if_neg (by simp)])
    clear HR HI
    have HPH := Lib.hid HP
    clear HP
    go_wp2_with fail
    have hp4 := put4 HPH.out.res (.slice none 0 0) (.slice none 0 0) (.int .i64 0) (.slice none 0 0)
    refine bodyPost_ret (results_cell_2 rfl _ _ w.heap.size _ _ (0, 0) _ rfl hp4.1 Tryz.underlying39 rfl (by kernel_rfl)) rfl ?_
    obtain rfl := HRR.out
    exact ⟨⟨none, 0, none, 0, none, 0, rfl, mf0_at _ _⟩, below_grown HPH.out.bel hp4.2 HPH.out.bel.size (Nat.le_refl _)⟩
  obtain ⟨n, hn⟩ : ∃ n, Lt.length + 1 = n := ⟨_, rfl⟩
  have HZ : Hid (R = Mc.runR 2 (Mc.mfH ((ps, rs), sl)) ((hd :: l0 :: Lt).drop 1)) := Lib.hid (by rw [HR.out, if_pos ⟨rfl, by simp⟩]; rfl)
  obtain ⟨L, hL⟩ : ∃ L, hd :: l0 :: Lt = L := ⟨_, rfl⟩
  have hll : L.length = n + 1 := by rw [← hL]; simp; omega
  rw [hL] at HZ hrd
  simp only [hL] at HI
  have hn0 : 1 ≤ n := by omega
  simp only [List.length_cons] at hLl
  have hLn : n ≤ 2001 := by omega
  simp only [List.length_cons, hn]
  clear hL HR hn hLl
  have x1 : ¬ ((n : Int) + 1 < 2) := by omega
  have HP0 : Hid (PEx w W w.heap.size Kf (Mc.mfH ((ps, rs), sl))) := Lib.hid ⟨S, A, c, B, d, none, 0, [], HP, rfl⟩
  clear HP z0 z1 z2 z3 y0 y1 y2 y3 hltr
  go_wp2_with fail
  go_loopw [8, 9, 10] (fun iv _ _ wr => ∃ (i : Nat) (f : Mf), iv = .int .i64 (i : Int) ∧ 1 ≤ i ∧ i ≤ n ∧ Hid (PEx w wr w.heap.size Kf f) ∧ RdS wr Kf (some ⟨g, o, none⟩) 1 encS L ∧ f.code.length + 1 = i ∧ Hid (R = Mc.runR (i + 1) f (L.drop i))) (fun iv _ _ _ => n + 1 - (intOf iv).toNat)
  case atStart => exact ⟨1, _, rfl, by omega, by omega, HP0, hrd, rfl, HZ⟩
  case round =>
    clear HP0 hrd HZ
    obtain ⟨i, f, rfl, hi1, hi, HP1, hrt, hcl, HZ⟩ := hrel
    obtain ⟨S1, P1, a1, Q1, a2, C1, a3, M, HP, hM⟩ := HP1.out
    obtain ⟨q, hq⟩ : ∃ q, f.code.length = q := ⟨_, rfl⟩
    have hML : M.length = q := by rw [← hq, ← hM]; simp
    obtain ⟨⟨z0, z1, z2, z3⟩, y0, y1, y2, y3⟩ := cells4' HP.res
    obtain ⟨⟨k0, k1, k2, k3⟩, j0, j1, j2, j3⟩ := cells4' HP.fn
    have hltr := HP.res.lt
    have hltf := HP.fn.lt
    have hl1 := HP.l1
    have hia : i < L.length := by omega
    obtain ⟨ga, oa, hga, hb1, e1⟩ := hrt.get hia
    cases hga
    have f0 := e1 0 _ rfl
    rw [Nat.add_zero, Nat.mul_one] at f0
    have HIi := Lib.hid (HI.out L[i] (List.getElem_mem hia))
    have hd2 : L.drop i = L[i] :: L.drop (i + 1) := List.drop_eq_getElem_cons hia
    have hz := HZ.out
    rw [hd2] at hz
    obtain ⟨u, hu⟩ : ∃ u, L[i] = u := ⟨_, rfl⟩
    rw [hu] at f0 HIi hz
    clear hu e1 hd2 HZ
    have hwi : IntKind.i64.wrap ((i : Int) + 1) = (i : Int) + 1 := wQs (by omega)
    have x4 : (0 : Int) ≤ (i : Int) := by omega
    have x3 : (i : Int) < (n : Int) + 1 := by omega
    by_cases hlast : i = n
    · subst hlast
      have hdr : L.drop (i + 1) = [] := by rw [← hll, List.drop_length]
      rw [hdr, Mc.runR] at hz
      have x5 : ¬ ((i : Int) + 1 < (i : Int) + 1) := Int.lt_irrefl _
      have hi5 : i ≤ 10000 := by omega
      have x7 : wrap64 (i : Int) = (i : Int) := wQ64 hi5
      have x8 : IntKind.i64.wrap (i : Int) = (i : Int) := wQi hi5
      have x6 : IntKind.i64.wrap ((i : Int) + 1 - 1) = (i : Int) := by rw [Int.add_sub_cancel]; exact x8
      clear HIi HI
      by_cases hun : u = []
      · subst hun
        rw [if_pos rfl] at hz
        have HRR := Lib.hid hz
        have HPH := Lib.hid HP
        rw [hML] at k3
        clear HP hz hrt HP1
        go_wp2_with fail
        have hp4 := put4 HPH.out.res (.slice P1 f.ps.length a1) (.slice Q1 f.rs.length a2) (.int .i64 f.slots) (.slice C1 q a3)
        refine bodyPost_ret (results_cell_2 rfl _ _ w.heap.size _ _ (0, 0) _ rfl hp4.1 Tryz.underlying39 rfl (by kernel_rfl)) rfl ?_
        obtain rfl := HRR.out
        have hm := HPH.out.fin hp4.2
        rw [hM] at hm
        exact ⟨⟨P1, a1, Q1, a2, C1, a3, by unfold mfV; dsimp only; rw [hq]; rfl, hm.1⟩, hm.2⟩
      · rw [if_neg hun] at hz
        have HRR : Hid (R = (Mc.mf0, ((i : Int) + 1), 4)) := Lib.hid (by rw [hz]; simp)
        have hbe := beq_no hun
        have hq2 : (u == []) = false := by simpa using hun
        have hq3 : List.isEmpty u = false := by simpa using hun
        have HPH := Lib.hid HP
        clear HP hz hrt HP1
        go_wp2_with fail
        have hp4 := put4 HPH.out.res (.slice none 0 0) (.slice none 0 0) (.int .i64 0) (.slice none 0 0)
        refine bodyPost_ret (results_cell_2 rfl _ _ w.heap.size _ _ (0, 0) _ rfl hp4.1 Tryz.underlying39 rfl (by kernel_rfl)) rfl ?_
        obtain rfl := HRR.out
        exact ⟨⟨none, 0, none, 0, none, 0, rfl, mf0_at _ _⟩, below_grown HPH.out.bel hp4.2 HPH.out.bel.size (Nat.le_refl _)⟩
    · have x5 : ((i : Int) + 1 < (n : Int) + 1) := by omega
      obtain ⟨u2, Lr, hLr⟩ : ∃ u2 Lr, L.drop (i + 1) = u2 :: Lr := List.exists_cons_of_ne_nil (by rw [Ne, List.drop_eq_nil_iff]; omega)
      rw [hLr, Mc.runR, ← hLr] at hz
      obtain ⟨⟨y, yb⟩, hy⟩ : ∃ y, Mc.rinsP u = y := ⟨_, rfl⟩
      rw [hy] at HIi hz
      dsimp only at hz
      clear hy hLr
      go_upto_region 9 with (go_at_call 52; refine (HIi.out _).mono ?_; rintro e w3 ⟨⟨A4, c4, B4, d4, T4, e4, rfl, r1⟩, hb⟩; unfold miV; dsimp only; have HP3 := HP.more hb)
      obtain ⟨S2, hS2⟩ : ∃ S2, (fun k => S1 k ∨ (wr.heap.size ≤ k ∧ k < w3.heap.size)) = S2 := ⟨_, rfl⟩
      have r2 : MvRd S2 w3 ((y, (A4, c4), (B4, d4), T4, e4) : MV) := by rw [← hS2]; exact MvRd.mono (v := ((y, (A4, c4), (B4, d4), T4, e4) : MV)) r1 fun k h1 h2 => .inr ⟨h2, h1⟩
      rw [hS2] at HP3
      have hrt3 : RdS w3 Kf (some ⟨g, o, none⟩) 1 encS L := hrt.low fun b h1 h2 => hb.block b h2
      have ha := (Below.refl w3.heap.size w3).alloc (Nat.le_refl _) (.cells #[.int .i64 y.kind, .int .i64 y.op, .int .i64 y.a, .int .i64 y.b, .int .u64 (y.n : Int), .slice A4 y.d.length c4, .slice B4 y.s.length d4, .slice T4 y.tos.length e4, .int .i64 y.trap] 61)
      refine at_code (F := fun W => Hid (PSt w W w.heap.size Kf S2 P1 a1 Q1 a2 C1 a3 f.ps f.rs f.slots M) ∧ Hid (MvRd S2 W ((y, (A4, c4), (B4, d4), T4, e4) : MV)) ∧ Hid (RdS W Kf (some ⟨g, o, none⟩) 1 encS L) ∧ Hid (Var W w3.heap.size #[.int .i64 y.kind, .int .i64 y.op, .int .i64 y.a, .int .i64 y.b, .int .u64 (y.n : Int), .slice A4 y.d.length c4, .slice B4 y.s.length d4, .slice T4 y.tos.length e4, .int .i64 y.trap] 61)) ⟨Lib.hid (HP3.below ha), Lib.hid (r2.on ha), Lib.hid (hrt3.low fun b h1 h2 => ha.block b h2), Lib.hid (Var.new _ _ _)⟩ ?_
      clear HP3 HP ha z0 z1 z2 z3 y0 y1 y2 y3 k0 k1 k2 k3 j0 j1 j2 j3 hltr hltf hrt r1 r2 hrt3 hb HP1 HIi HI f0 hS2
      obtain ⟨Kx, hKx⟩ : ∃ K, w3.heap.size = K := ⟨_, rfl⟩
      simp only [hKx]
      clear hKx
      rintro W4 ⟨HPH, HR2, HRT, HVX⟩
      rcases yb with _ | _
      · have HRR : Hid (R = (Mc.mf0, ((i : Int) + 1), 4)) := Lib.hid (by rw [hz]; simp)
        obtain ⟨⟨z0, z1, z2, z3⟩, y0, y1, y2, y3⟩ := cells4' HPH.out.res
        have hltr := HPH.out.res.lt
        clear hz
        go_wp2_with fail
        have hp4 := put4 HPH.out.res (.slice none 0 0) (.slice none 0 0) (.int .i64 0) (.slice none 0 0)
        refine bodyPost_ret (results_cell_2 rfl _ _ w.heap.size _ _ (0, 0) _ rfl hp4.1 Tryz.underlying39 rfl (by kernel_rfl)) rfl ?_
        obtain rfl := HRR.out
        exact ⟨⟨none, 0, none, 0, none, 0, rfl, mf0_at _ _⟩, below_grown HPH.out.bel hp4.2 HPH.out.bel.size (Nat.le_refl _)⟩
      rw [if_pos rfl] at hz
      have HZ2 := Lib.hid hz
      clear hz
      obtain ⟨v0, v1, v2, v3, v4, v5, v6, v7, v8⟩ := cells9 HVX.out
      have k3 : W4.cell? ⟨Kf, 3, none⟩ = some (.slice C1 q a3) := by rw [← hML]; exact HPH.out.fn.cells 3
      have j3 := HPH.out.fn.froz 3
      have hltf := HPH.out.fn.lt
      have hMle : M.length ≤ 1000000 := by omega
      go_wp2_with (at_builtin; have haa := (Below.refl W4.heap.size W4).alloc (Nat.le_refl _) (.cells #[.int .i64 y.kind, .int .i64 y.op, .int .i64 y.a, .int .i64 y.b, .int .u64 (y.n : Int), .slice A4 y.d.length c4, .slice B4 y.s.length d4, .slice T4 y.tos.length e4, .int .i64 y.trap] 61); have HPA := HPH.out.below haa; have HRA := MvRd.on HR2.out haa; have hown := HPA.own; rw [hML] at hown; refine app_rs2 Tryz.underlying37 hi0 hz0 hz1 hz2 hzs (by omega) encM_len encM_one _ rfl (.tmp 49) (.tmp 51) rfl (Kf + 1) (.slice C1 q a3) q M (by rfl) hown [((y, (A4, c4), (B4, d4), T4, e4) : MV)] 1 1 _ rfl (by rfl) (one_mi W4 y A4 c4 B4 d4 T4 e4) (by omega) hbb (by have := HPA.ltf; omega) ?_; intro A' c' w6 own6 hg6 hob6; rw [← hML] at own6 hg6 hob6; have POK := HPA.app HRA own6 hg6 hob6; have V6 := var_grown HPA.fn HPA.own (by decide) hg6; rw [hML] at POK; have n1 := V6.cells 3; have n2 := V6.froz 3; have n3 := V6.lt; have HRT6 := Lib.hid ((HRT.out.low fun b h1 h2 => haa.block b h2).low fun b h1 h2 => hg6.block b h2 (fun e => by have := (HPA.own.lt b e.symm).1; omega)))
      go_roundw
      case rel => exact ⟨i + 1, Mc.addI f y, by go_num, by omega, by omega, Lib.hid ⟨S2, P1, a1, Q1, a2, A', c', M ++ [((y, (A4, c4), (B4, d4), T4, e4) : MV)], POK, by simp [Mc.addI, hM]⟩, HRT6.out.low (fun b h1 h2 => (grown_set _ Kf 3 _).block b h2 (fun e => by injection e with e; omega)), by simp [Mc.addI]; omega, HZ2.out |> Lib.hid⟩
      case measure => simp [intOf]; omega
end Go.Proofs.YtadnfekogmjieaaGreatDoor
