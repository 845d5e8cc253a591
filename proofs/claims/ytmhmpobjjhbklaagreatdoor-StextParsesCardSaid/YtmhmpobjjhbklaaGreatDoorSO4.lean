/-
  Layer 40, the program: readBlock.
-/
import Derived.Test.YtmhmpobjjhbklaaGreatDoorSO3
set_option linter.unusedVariables false
set_option linter.unusedSimpArgs false
namespace Go.Proofs.YtmhmpobjjhbklaaGreatDoor
namespace St
theorem fieldsGoD_flat (f : Nat) (cur l : W) : ((Lib.fieldsGoD f cur l).flatten).length ≤ cur.length + l.length := by
  induction f generalizing cur l with
  | zero => unfold Lib.fieldsGoD; split <;> simp
  | succ f ih =>
    unfold Lib.fieldsGoD
    split
    · split <;> simp
    · split
      · have := ih [] (l.drop (Lib.decodeL l).2)
        rw [List.length_drop] at this
        rw [List.flatten_append, List.length_append]
        split
        · simp at this ⊢; omega
        · simp at this ⊢; omega
      · have := ih (cur ++ l.take (Lib.decodeL l).2) (l.drop (Lib.decodeL l).2)
        rw [List.length_drop, List.length_append, List.length_take] at this
        omega
theorem fieldsGoD_ne (f : Nat) (cur l : W) : ∀ w ∈ Lib.fieldsGoD f cur l, w ≠ [] := by
  induction f generalizing cur l with
  | zero => unfold Lib.fieldsGoD; split <;> simp_all
  | succ f ih =>
    unfold Lib.fieldsGoD
    split
    · split <;> simp_all
    · split
      · intro w hw
        rcases List.mem_append.1 hw with hw | hw
        · split at hw
          · cases hw
          · simp at hw; subst hw; assumption
        · exact ih _ _ w hw
      · exact ih _ _
theorem flat_count (l : List W) (h : ∀ w ∈ l, w ≠ []) : l.length ≤ l.flatten.length ∧ ∀ w ∈ l, w.length ≤ l.flatten.length := by
  induction l with
  | nil => simp
  | cons a l ih =>
    obtain ⟨h1, h2⟩ := ih fun w hw => h w (by simp [hw])
    have ha : 0 < a.length := List.length_pos_iff.2 (h a (by simp))
    rw [List.flatten_cons, List.length_append, List.length_cons]
    refine ⟨by omega, fun w hw => ?_⟩
    rcases List.mem_cons.1 hw with rfl | hw
    · omega
    · have := h2 w hw; omega
theorem fieldsD_wd (s : W) : (Lib.fieldsD s).length ≤ s.length ∧ ∀ w ∈ Lib.fieldsD s, w ≠ [] ∧ w.length ≤ s.length := by
  have h0 := fieldsGoD_ne (s.length + 1) [] s
  have h1 := fieldsGoD_flat (s.length + 1) [] s
  obtain ⟨h2, h3⟩ := flat_count _ h0
  simp only [List.length_nil, Nat.zero_add] at h1
  exact ⟨Nat.le_trans h2 h1, fun w hw => ⟨h0 w hw, Nat.le_trans (h3 w hw) h1⟩⟩
theorem numsGo_in (l : List W) (ok : Bool) : (numsGo l ok).1.length ≤ l.length ∧ ∀ z ∈ (numsGo l ok).1, InR z := by
  induction l generalizing ok with
  | nil => simp [numsGo]
  | cons w l ih =>
    unfold numsGo
    split
    · obtain ⟨h1, h2⟩ := ih (ok && (pint w).2)
      refine ⟨by simpa using h1, fun z hz => ?_⟩
      rcases List.mem_cons.1 hz with rfl | hz
      · exact pint_in w
      · exact h2 z hz
    · simp
/-- The line that begins a block, as the program reads it. -/
def blockP (s : W) : List Int × Bool :=
  ((numsO (takeO lBlock ⟨Lib.fieldsD s, true⟩).2).1,
    (takeO lBlock ⟨Lib.fieldsD s, true⟩).1 && ((numsO (takeO lBlock ⟨Lib.fieldsD s, true⟩).2).2.ok && ((numsO (takeO lBlock ⟨Lib.fieldsD s, true⟩).2).2.l == [] && join [lBlock, row (numsO (takeO lBlock ⟨Lib.fieldsD s, true⟩).2).1] == s)))
theorem takeO_len (w : W) (r : Rs) : (takeO w r).2.l.length ≤ r.l.length := by unfold takeO; split <;> simp
end St
open Go.RowKit
open St (InR)
/-- A reader that was made just now. -/
theorem RAt.new {w1 : World} {A : Option Addr} {s : St.W} (hs : s.length ≤ 1000000) (h : RdS w1 w1.heap.size A 1 encS (Lib.fieldsD s)) :
    RAt (w1.alloc (.cells #[.slice A (Lib.fieldsD s).length (Lib.fieldsD s).length, .bool true] 132)) w1.heap.size w1.heap.size (Lib.fieldsD s) true := by
  obtain ⟨h1, h2⟩ := St.fieldsD_wd s
  exact ⟨⟨A, _, Var.new _ _ _, h.below ((Below.refl _ _).alloc (Nat.le_refl _) _), Nat.le_refl _⟩, by simp, by omega, fun x hx => ⟨(h2 x hx).1, by have := (h2 x hx).2; omega⟩⟩
def BlockOut (N : Nat) (R : List Int × Bool) (e : Ending) (w' : World) : Prop := ∃ A c, e = .returned (.tuple #[.slice A R.1.length c, .bool R.2]) ∧ RdZ w' (fun g => N ≤ g) A R.1

set_option maxHeartbeats 4000000 in
set_option maxRecDepth 100000 in
/-- stext.readBlock. -/
theorem sreadBlock_any (s : St.W) (hs : s.length ≤ 1000000) (hf : (Lib.fieldsD s).length ≤ 10000) (w : World) (G : Glob w) :
    Calls Tryz.prog 68 #[.string ⟨s.toArray⟩] w fun e w' => BlockOut w.heap.size (St.blockP s) e w' ∧ Below w.heap.size w w' := by
  have HF := Lib.hid (fields_any s hs w G)
  have HNew := Lib.hid (fun (W : World) (A : Option Addr) (h : RdS W W.heap.size A 1 encS (Lib.fieldsD s)) => RAt.new hs h)
  obtain ⟨R, hR⟩ : ∃ x, St.blockP s = x := ⟨_, rfl⟩
  rw [hR]
  unfold St.blockP at hR
  obtain ⟨L, hL⟩ : ∃ x, Lib.fieldsD s = x := ⟨_, rfl⟩
  rw [hL] at HF HNew hR hf
  have htl := St.takeO_len St.lBlock ⟨L, true⟩
  have HTk := Lib.hid (fun N K W (h : RAt W N K L true) => rtake_any St.lBlock N K L true W h)
  have hok := St.takeO_ok St.lBlock ⟨L, true⟩
  obtain ⟨⟨t, ⟨l1, ok1⟩⟩, ht⟩ : ∃ x, St.takeO St.lBlock ⟨L, true⟩ = x := ⟨_, rfl⟩
  rw [ht] at HTk htl hR hok
  dsimp only at HTk htl hR hok
  subst hok
  have HNs := Lib.hid (fun N K W hB hK (h : RAt W N K l1 true) => rdnums_any N K l1 true w W G hB hK h)
  have hnl := St.numsGo_in l1 true
  unfold St.numsO at hR
  dsimp only at hR
  obtain ⟨⟨z, ⟨l2, ok2⟩⟩, hz⟩ : ∃ x, St.numsGo l1 true = x := ⟨_, rfl⟩
  rw [hz] at HNs hnl hR
  dsimp only at HNs hnl hR
  obtain ⟨hzl, hzi⟩ := hnl
  have hrl := St.row_len hzi
  have HRow := Lib.hid (fun A c W (h : RdS W W.heap.size A 1 encZ z) (G : Glob W) => srow_any A c _ z rfl (by omega) hzi W h G)
  obtain ⟨rw_, hrw⟩ : ∃ x, St.row z = x := ⟨_, rfl⟩
  rw [hrw] at hR HRow hrl
  have HJ := Lib.hid (fun W A (h : RdS W W.heap.size A 1 encS [St.lBlock, rw_]) => sjoin_any A 2 2 [St.lBlock, rw_] rfl (by omega) (by intro s hs; rcases List.mem_cons.1 hs with rfl | hs; · { decide }; rcases List.mem_cons.1 hs with rfl | hs; · { omega }; cases hs) W h)
  obtain ⟨j, hj⟩ : ∃ x, St.join [St.lBlock, rw_] = x := ⟨_, rfl⟩
  rw [hj] at hR HJ
  have HR := Lib.hid hR.symm
  have HG := Lib.hid G
  clear hR hj hrw hz ht hL G htl hrl
  unfold St.lBlock at HTk HJ
  go_enter Tryz.func68, Tryz.ntmps68
  go_upto_region 4 with (first
    | (go_at_call 66; refine HF.out.mono ?_; rintro e w1 ⟨⟨A0, rfl, hrd⟩, hb⟩; have r0 := HNew.out _ _ hrd; have b0 := hb.alloc hb.size (.cells #[.slice A0 L.length L.length, .bool true] 132); have hk := hb.size; clear hrd hb)
    | (go_at_call 94; refine (HTk.out _ _ _ r0).mono ?_; rintro e w2 ⟨rfl, r1, g1⟩; have b1 := below_grown b0 g1 b0.size hk; clear r0 b0 g1)
    | (go_at_call 95; refine (HNs.out _ _ _ b1 hk r1).mono ?_; rintro e w3 ⟨A, c, rfl, own, r2, g2⟩; have hb1 := b1.size; have b2 := below_grown b1 g2 b1.size hk; clear r1 b1 g2))
  obtain ⟨⟨A1, c1, hv, hr, hc1⟩, -, -⟩ := r2
  obtain ⟨q0, q1⟩ := cells2 hv
  have hlt := hv.lt
  have hrd := own_rds encZ_len (by omega) own
  have hrz := own_rdz own
  clear hv hr own HNs HTk HNew HF
  rcases t with _ | _
  · go_wp2
    go_ret2
    obtain rfl := HR.out
    exact ⟨⟨A, c, rfl, hrz.mono (fun g _ h => Nat.le_trans hb1 h)⟩, b2⟩
  rcases ok2 with _ | _
  · go_wp2
    go_ret2
    obtain rfl := HR.out
    exact ⟨⟨A, c, rfl, hrz.mono (fun g _ h => Nat.le_trans hb1 h)⟩, b2⟩
  rcases l2 with _ | ⟨x, l2⟩
  · by_cases he : j = s
    · subst he
      obtain rfl : R = (z, true) := by rw [HR.out]; simp
      clear HR
      go_wp2_with (first
        | (go_at_call 19; refine (HRow.out _ _ _ hrd (HG.out.below b2)).mono ?_; rintro e w4 ⟨rfl, hb4⟩; have b4 := b2.trans (hb4.mono b2.size); have r4 := hrz.on hb4; clear hb4)
        | (go_at_call 18; refine (HJ.out _ _ (block_rds encS_len rfl (heap_alloc_new w4 _))).mono ?_; rintro e w5 ⟨rfl, hb5⟩; have b5 := b4.trans ((below_one hb5).mono b4.size); have r5 := r4.on (below_one hb5); clear hb5))
      go_ret2
      exact ⟨⟨A, c, rfl, r5.mono (fun g _ h => Nat.le_trans hb1 h)⟩, b5⟩
    · have hq := beq_no he
      have hq2 : (j == s) = false := by simpa using he
      obtain rfl : R = (z, false) := by rw [HR.out, hq2]; simp
      clear HR he
      go_wp2_with (first
        | (go_at_call 19; refine (HRow.out _ _ _ hrd (HG.out.below b2)).mono ?_; rintro e w4 ⟨rfl, hb4⟩; have b4 := b2.trans (hb4.mono b2.size); have r4 := hrz.on hb4; clear hb4)
        | (go_at_call 18; refine (HJ.out _ _ (block_rds encS_len rfl (heap_alloc_new w4 _))).mono ?_; rintro e w5 ⟨rfl, hb5⟩; have b5 := b4.trans ((below_one hb5).mono b4.size); have r5 := r4.on (below_one hb5); clear hb5))
      go_ret2
      exact ⟨⟨A, c, rfl, r5.mono (fun g _ h => Nat.le_trans hb1 h)⟩, b5⟩
  · simp only [List.length_cons] at q0
    have x0 : ¬ ((l2.length : Int) + 1 = 0) := by omega
    go_wp2
    go_ret2
    obtain rfl : R = (z, false) := by rw [HR.out]; simp
    exact ⟨⟨A, c, rfl, hrz.mono (fun g _ h => Nat.le_trans hb1 h)⟩, b2⟩
end Go.Proofs.YtmhmpobjjhbklaaGreatDoor
