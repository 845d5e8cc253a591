/-
  Layer 40, the program: join, row, list.
-/
import Derived.Test.YtmhmpobjjhbklaaGreatDoorSt1
set_option linter.unusedVariables false
set_option linter.unusedSimpArgs false
namespace Go.Proofs.YtmhmpobjjhbklaaGreatDoor
open Go.RowKit
open St (InR)

/-- One text laid at the heap's end, as append reads it. -/
theorem one_str (W : World) (s : List UInt8) : Reads (W.alloc (.cells #[.string ⟨s.toArray⟩] 9)) (W.alloc (.cells #[.string ⟨s.toArray⟩] 9)).heap.size 1 (some ⟨W.heap.size, 0, none⟩) 1 ([s].flatMap encS) := block_reads (cs := #[.string ⟨s.toArray⟩]) rfl (heap_alloc_new W _)

set_option maxHeartbeats 4000000 in
/-- stext.row. -/
theorem srow_any (A1 : Option Addr) (c1 n1 : Nat) (l : List Int) (hn : l.length = n1) (hl : n1 ≤ 100000) (hz : ∀ z ∈ l, InR z) (w : World) (h1 : RdS w w.heap.size A1 1 encZ l) (G : Glob w) :
    Calls Tryz.prog 19 #[.slice A1 n1 c1] w fun e w' => e = .returned (.string ⟨(St.row l).toArray⟩) ∧ Below w.heap.size w w' := by
  obtain ⟨i0, hi0, hz0, hz1, hz2⟩ := info_parts info_string
  subst hn
  have hrl := St.row_len hz
  have HZ := Lib.hid hz
  clear hz
  go_enter Tryz.func19, Tryz.ntmps19
  go_wp2
  go_loopw [3, 8] (fun ov iv wr => ∃ (i : Nat) (A : Option Addr) (c : Nat), ov = .slice A i c ∧ iv = .int .i64 (i : Int) ∧ i ≤ l.length ∧ wr.ownsRow w.heap.size 9 1 (.slice A i c) i (((l.take i).map Lib.itoa).flatMap encS) ∧ Below w.heap.size w wr) (fun _ iv _ => l.length - (intOf iv).toNat)
  case atStart => exact ⟨0, none, 0, rfl, rfl, by omega, World.ownsRow_nil _ _ _ _, Below.refl _ _⟩
  case round =>
    obtain ⟨i, A, c, rfl, rfl, hi, hown, hB⟩ := hrel
    by_cases hia : i < l.length
    · obtain ⟨ga, oa, rfl, hb1, e1⟩ := (h1.below hB).get hia
      have ht2 : (l.take (i + 1)).map Lib.itoa = (l.take i).map Lib.itoa ++ [Lib.itoa l[i]] := by rw [List.take_succ_eq_append_getElem hia, List.map_append]; rfl
      have hss := HZ.out l[i] (List.getElem_mem _)
      have f0 := e1 0 _ rfl
      rw [Nat.add_zero, Nat.mul_one] at f0
      obtain ⟨z, hv⟩ : ∃ v, l[i] = v := ⟨_, rfl⟩
      rw [hv] at f0 ht2 hss
      have x0 : (i : Int) < (l.length : Int) := by omega
      have x2 : (0 : Int) ≤ (i : Int) := by omega
      have hsz := hB.size
      have HT := Lib.hid ht2
      have HG := Lib.hid (G.below hB)
      have hia' := fun W (G : Glob W) => itoa_any z hss.1 hss.2 W G.tab
      obtain ⟨s, hs⟩ : ∃ s, Lib.itoa z = s := ⟨_, rfl⟩
      simp only [hs] at hia'
      have HI := Lib.hid hia'
      have HSS := Lib.hid hs
      have HB := Lib.hid hB
      clear hia' hs hss ht2 hv e1 hB
      go_wp2_with (first
        | (go_at_call 50; refine (HI.out _ HG.out).mono ?_; rintro e w1 ⟨rfl, hb⟩; have hown := own_below hown hb (Nat.le_refl _); have hB2 := HB.out.trans (hb.mono HB.out.size); have hsz2 := hB2.size)
        | (at_builtin; refine app_rs Tryz.underlying54 hi0 hz0 hz1 hz2 rfl (by omega) encS_len encS_one _ rfl (.tmp 12) (.tmp 15) rfl w.heap.size _ i _ (by rfl) (hown.alloc _) [s] 1 1 _ rfl (by rfl) (one_str _ s) (by omega) (by omega) (by simp; omega) ?_; intro A' c' w2 hown2 hg; have HB3 := Lib.hid ((hB2.alloc hsz2 _).trans (below_own (hown.alloc _) hg (by simp; omega))); clear hg))
      go_roundw
      case rel => exact ⟨i + 1, A', c', rfl, by go_num, by omega, by rw [HT.out, HSS.out]; exact hown2, HB3.out⟩
      case measure => simp [intOf]; omega
    · have hi2 : i = l.length := by omega
      subst hi2
      rw [List.take_length] at hown
      have HB := Lib.hid hB
      have hsz := hB.size
      clear hB
      go_wp2_with (go_at_call 22; refine (sjoins_any _ _ _ _ (l.map Lib.itoa) [32] _ (by simp) hown (by omega) (by show (St.row l).length ≤ _; omega)).mono ?_; rintro e w1 ⟨rfl, hb⟩)
      go_ret
      exact ⟨rfl, HB.out.trans (hb.mono hsz)⟩

set_option maxHeartbeats 4000000 in
/-- stext.join. -/
theorem sjoin_any (A1 : Option Addr) (c1 n1 : Nat) (l : List (List UInt8)) (hn : l.length = n1) (hl : n1 ≤ 100) (hz : ∀ s ∈ l, s.length ≤ 1000000) (w : World) (h1 : RdS w w.heap.size A1 1 encS l) :
    Calls Tryz.prog 18 #[.slice A1 n1 c1] w fun e w' => e = .returned (.string ⟨(St.join l).toArray⟩) ∧ Below w.heap.size w w' := by
  obtain ⟨i0, hi0, hz0, hz1, hz2⟩ := info_parts info_string
  subst hn
  have hrl := St.join_len l _ hz
  go_enter Tryz.func18, Tryz.ntmps18
  go_wp2
  go_loopw [3, 8] (fun ov iv wr => ∃ (i m : Nat) (A : Option Addr) (c : Nat), ov = .slice A m c ∧ iv = .int .i64 (i : Int) ∧ i ≤ l.length ∧ m ≤ i ∧ ((l.take i).filter St.ne).length = m ∧ wr.ownsRow w.heap.size 9 1 (.slice A m c) m (((l.take i).filter St.ne).flatMap encS) ∧ Below w.heap.size w wr) (fun _ iv _ => l.length - (intOf iv).toNat)
  case atStart => exact ⟨0, 0, none, 0, rfl, rfl, by omega, by omega, rfl, World.ownsRow_nil _ _ _ _, Below.refl _ _⟩
  case round =>
    obtain ⟨i, m, A, c, rfl, rfl, hi, hmi, hm, hown, hB⟩ := hrel
    by_cases hia : i < l.length
    · obtain ⟨ga, oa, rfl, hb1, e1⟩ := (h1.below hB).get hia
      have ht2 : (l.take (i + 1)).filter St.ne = (l.take i).filter St.ne ++ [l[i]].filter St.ne := by rw [List.take_succ_eq_append_getElem hia, List.filter_append]
      have f0 := e1 0 _ rfl
      rw [Nat.add_zero, Nat.mul_one] at f0
      obtain ⟨s, hv⟩ : ∃ v, l[i] = v := ⟨_, rfl⟩
      rw [hv] at f0 ht2
      have x0 : (i : Int) < (l.length : Int) := by omega
      have x2 : (0 : Int) ≤ (i : Int) := by omega
      have hsz := hB.size
      have HM := Lib.hid hm
      have HB := Lib.hid hB
      have hq := beq_bytes s []
      rcases hs : decide (s = []) with _ | _
      · have hs2 : s ≠ [] := by simpa using hs
        have hbn := bne_no hs2
        have hbe := beq_no hs2
        have ht3 : (l.take (i + 1)).filter St.ne = (l.take i).filter St.ne ++ [s] := by rw [ht2]; simp [St.ne, hs2]
        have HT := Lib.hid ht3
        have hq2 : (s == []) = false := by simpa using hs2
        clear ht2 ht3 hv e1 hB hq hs hm
        go_wp2_with (at_builtin; refine app_rs Tryz.underlying54 hi0 hz0 hz1 hz2 rfl (by omega) encS_len encS_one _ rfl (.tmp 14) (.tmp 16) rfl w.heap.size _ m _ (by rfl) (hown.alloc _) [s] 1 1 _ rfl (by rfl) (one_str _ s) (by omega) (by omega) (by simp; omega) ?_; intro A' c' w2 hown2 hg; have HB3 := Lib.hid ((HB.out.alloc HB.out.size _).trans (below_own (hown.alloc _) hg (by simp; omega))); clear hg)
        go_roundw
        case rel => exact ⟨i + 1, m + 1, A', c', rfl, by go_num, by omega, by omega, by rw [HT.out, List.length_append, HM.out]; rfl, by rw [HT.out]; exact hown2, HB3.out⟩
        case measure => simp [intOf]; omega
      · obtain rfl : s = [] := by simpa using hs
        have ht3 : (l.take (i + 1)).filter St.ne = (l.take i).filter St.ne := by rw [ht2]; simp [St.ne]
        have HT := Lib.hid ht3
        clear ht2 ht3 hv e1 hB hq hs hm
        go_wp2
        go_roundw
        case rel => exact ⟨i + 1, m, A, c, rfl, by go_num, by omega, by omega, by rw [HT.out]; exact HM.out, by rw [HT.out]; exact hown, HB.out⟩
        case measure => simp [intOf]; omega
    · have hi2 : i = l.length := by omega
      subst hi2
      rw [List.take_length] at hown hm
      have HB := Lib.hid hB
      have hsz := hB.size
      have HM := Lib.hid hm
      clear hB hm
      go_wp2_with (go_at_call 22; refine (sjoins_any _ _ _ _ (l.filter St.ne) [32] _ HM.out hown (by omega) (by show (St.join l).length ≤ _; omega)).mono ?_; rintro e w1 ⟨rfl, hb⟩)
      go_ret
      exact ⟨rfl, HB.out.trans (hb.mono hsz)⟩

set_option maxHeartbeats 4000000 in
/-- stext.list. -/
theorem slist_any (label : List UInt8) (hlb : label.length ≤ 1000) (A1 : Option Addr) (c1 n1 : Nat) (l : List Int) (hn : l.length = n1) (hl : n1 ≤ 10000) (hz : ∀ z ∈ l, InR z) (w : World) (h1 : RdS w w.heap.size A1 1 encZ l) (G : Glob w) :
    Calls Tryz.prog 54 #[.string ⟨label.toArray⟩, .slice A1 n1 c1] w fun e w' => e = .returned (.string ⟨(St.list label l).toArray⟩) ∧ Below w.heap.size w w' := by
  have hrl := St.row_len hz
  have HR := Lib.hid (srow_any A1 c1 n1 l hn (by omega) hz w h1 G)
  subst hn
  by_cases h0 : l = []
  · subst h0
    clear hrl hz
    go_enter Tryz.func54, Tryz.ntmps54
    go_wp2
    go_ret
    exact ⟨rfl, Below.refl _ _⟩
  · have hx : St.list label l = St.join [label, St.row l] := if_neg h0
    have HX := Lib.hid hx
    obtain ⟨r, hr⟩ : ∃ r, St.row l = r := ⟨_, rfl⟩
    rw [hr] at hrl HR HX
    have hp : 0 < l.length := List.length_pos_iff.2 h0
    have d0 : ((l.length : Int) == 0) = false := by simp; omega
    have d1 : (l.length == 0) = false := by simp; omega
    have HJ := Lib.hid (fun W A (h : RdS W W.heap.size A 1 encS [label, r]) => sjoin_any A 2 2 [label, r] rfl (by omega) (by intro s hs; simp at hs; rcases hs with rfl | rfl <;> omega) W h)
    clear hx hr hz h0
    go_enter Tryz.func54, Tryz.ntmps54
    go_wp2_with (first
      | (go_at_call 19; refine HR.out.mono ?_; rintro e w1 ⟨rfl, hb⟩)
      | (go_at_call 18; refine (HJ.out _ _ (block_rds encS_len rfl (heap_alloc_new w1 _))).mono ?_; rintro e w2 ⟨rfl, hb2⟩))
    go_ret
    exact ⟨by rw [HX.out]; rfl, hb.trans ((((Below.refl _ w1).alloc (Nat.le_refl _) _).trans (hb2.mono (by simp))).mono hb.size)⟩
end Go.Proofs.YtmhmpobjjhbklaaGreatDoor
