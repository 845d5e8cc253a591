/-
  Layer 51, the reference's opcodes: within, Of, typ, fn, Width.
  Layer 51, the reference's opcodes: plain, Sig. (Printed by gen_mk3.py.)
-/
import Derived.Test.YtadnfekogmjieaaGreatDoorGGI
import Derived.Test.YtadnfekogmjieaaGreatDoorGGS
import Derived.Test.YtadnfekogmjieaaGreatDoorGMC2
set_option linter.unusedVariables false
set_option linter.unusedSimpArgs false
namespace Go.Proofs.YtadnfekogmjieaaGreatDoor
open Go.RowKit
attribute [local go_sem] ByteArray.extract_mk
namespace Mc
theorem within_hit {s part : W} {i : Nat} (h : hasAt s part i = true) : withinR s part = true := by
  unfold withinR
  rw [List.any_eq_true]
  refine ⟨i, ?_, h⟩
  unfold hasAt at h
  rw [List.mem_range]
  simp at h
  omega
theorem within_miss {s part : W} {i : Nat} (h : ∀ k, k < i → hasAt s part k = false) (h2 : ¬ i + part.length ≤ s.length) : withinR s part = false := by
  unfold withinR
  rw [List.any_eq_false]
  intro k _
  by_cases hk : k < i
  · rw [h k hk]; decide
  · unfold hasAt
    rw [decide_eq_false (by omega)]; exact Bool.false_ne_true
theorem rfind_eq (op : Int) : ∀ l : List Opc.R, Opc.rfind op l = l.find? (fun r => r.1 == op)
  | [] => rfl
  | r :: l => by
    rw [Opc.rfind, List.find?_cons]
    by_cases h : r.1 = op
    · rw [if_pos h, show (r.1 == op) = true by simpa using h]
    · rw [if_neg h, show (r.1 == op) = false by simpa using h]; exact rfind_eq op l
set_option maxRecDepth 100000 in
theorem of_rows : ∀ r ∈ Opc.refRows, r.2.2 = 17 → 3 ≤ (Opc.name r.1).length := by decide +kernel
theorem seven_bools : ∀ b1 b2 b3 b4 b5 b6 b7 : Bool, b1 = true ∨ (b1 = false ∧ b2 = true) ∨ (b1 = false ∧ b2 = false ∧ b3 = true) ∨ (b1 = false ∧ b2 = false ∧ b3 = false ∧ b4 = true) ∨ (b1 = false ∧ b2 = false ∧ b3 = false ∧ b4 = false ∧ b5 = true) ∨ (b1 = false ∧ b2 = false ∧ b3 = false ∧ b4 = false ∧ b5 = false ∧ b6 = true) ∨ (b1 = false ∧ b2 = false ∧ b3 = false ∧ b4 = false ∧ b5 = false ∧ b6 = false ∧ b7 = true) ∨ (b1 = false ∧ b2 = false ∧ b3 = false ∧ b4 = false ∧ b5 = false ∧ b6 = false ∧ b7 = false) := by
  rintro (_ | _) (_ | _) (_ | _) (_ | _) (_ | _) (_ | _) (_ | _) <;> simp
theorem of17_len {op : Int} (h : ofR op = 17) : 3 ≤ (Opc.name op).length := by
  unfold ofR at h
  rcases hf : Opc.refRows.find? (fun r => r.1 == op) with _ | r
  · rw [hf] at h; exact absurd h (by decide : ¬ (0 : Int) = 17)
  · rw [hf] at h
    have h1 := List.mem_of_find?_eq_some hf
    have h2 := List.find?_some hf
    have h3 : r.1 = op := by simpa using h2
    rw [← h3]; exact of_rows r h1 h
end Mc
set_option maxHeartbeats 4000000 in
theorem rwithin_any (s part : Mc.W) (hs : s.length ≤ 1000000) (hp : part.length ≤ 1000000) (w : World) :
    Calls Tryz.prog 152 #[.string ⟨s.toArray⟩, .string ⟨part.toArray⟩] w fun e w' => e = .returned (.bool (Mc.withinR s part)) ∧ w = w' := by
  have hsz : (ByteArray.mk s.toArray).size = s.length := by simp [ByteArray.size]
  have hpz : (ByteArray.mk part.toArray).size = part.length := by simp [ByteArray.size]
  go_enter Tryz.func152, Tryz.ntmps152
  go_wp2
  go_loopw [5] (fun iv wr => ∃ i : Nat, iv = .int .i64 (i : Int) ∧ i ≤ s.length + 1 ∧ w = wr ∧ Hid (∀ k, k < i → Mc.hasAt s part k = false)) (fun iv _ => s.length + 1 - (intOf iv).toNat)
  case atStart => exact ⟨0, rfl, by omega, rfl, Lib.hid (fun k hk => by omega)⟩
  case round =>
    obtain ⟨i, rfl, hi, rfl, HN⟩ := hrel
    by_cases h1 : i + part.length ≤ s.length
    · have x0 : (i : Int) + (part.length : Int) ≤ (s.length : Int) := by omega
      have x1 : (0 : Int) ≤ (i : Int) := by omega
      have x2 : (i : Int) ≤ (i : Int) + (part.length : Int) := by omega
      have x3 : ((i : Int) + (part.length : Int)).toNat = i + part.length := by omega
      by_cases h2 : (s.drop i).take part.length = part
      · have HH : Hid (Mc.withinR s part = true) := Lib.hid (Mc.within_hit (i := i) (by unfold Mc.hasAt; rw [decide_eq_true h1, h2]; simp))
        have y0 : ((s.drop i).take part.length == part) = true := by simpa using h2
        clear HN h2
        go_wp2
        go_ret
        exact ⟨by rw [HH.out]; rfl, rfl⟩
      · have HM : Hid (∀ k, k < i + 1 → Mc.hasAt s part k = false) := Lib.hid (fun k hk => by
          by_cases e : k = i
          · subst e; unfold Mc.hasAt; rw [show ((s.drop k).take part.length == part) = false by simpa using h2]; simp
          · exact HN.out k (by omega))
        have y0 : ((s.drop i).take part.length == part) = false := by simpa using h2
        clear HN h2
        go_wp2
        go_roundw
        case rel => exact ⟨i + 1, by go_num, by omega, by trivial, HM⟩
        case measure => simp [intOf] <;> omega
    · have HH : Hid (Mc.withinR s part = false) := Lib.hid (Mc.within_miss HN.out h1)
      have x0 : ¬ (i : Int) + (part.length : Int) ≤ (s.length : Int) := by omega
      clear HN
      go_wp2
      go_ret
      exact ⟨by rw [HH.out]; rfl, rfl⟩
set_option maxHeartbeats 4000000 in
theorem rof5_any (op : Int) (w : World) : Calls Tryz.prog 151 #[.int .i64 op] w fun e w' => e = .returned (.int .i64 (Mc.ofR op)) ∧ Below w.heap.size w w' := by
  unfold Mc.ofR
  rw [← Mc.rfind_eq]
  have hf := fun W => rfind_any op W
  rcases hr : Opc.rfind op Opc.refRows with _ | ⟨a, b, c3⟩
  all_goals
    rw [hr] at hf
    unfold found5 at hf
    try (unfold rowv enc5 at hf; dsimp only at hf)
    have HF := Lib.hid hf
    clear hf
    go_enter Tryz.func151, Tryz.ntmps151
    go_wp2_with (go_at_call 128; refine (HF.out _).mono ?_; rintro e w1 ⟨rfl, hb⟩)
    go_ret
    exact ⟨rfl, hb.trans (((Below.refl _ _).alloc (Nat.le_refl _) _).mono hb.size)⟩
theorem rtyp_any (s : Mc.W) (w : World) : Calls Tryz.prog 199 #[.string ⟨s.toArray⟩] w fun e w' => (∃ t : Int, e = .returned (.int .i64 t)) ∧ w = w' := by
  have hsz : (ByteArray.mk s.toArray).size = s.length := by simp [ByteArray.size]
  by_cases h1 : 4 < s.length
  · have x0 : (4 : Int) < (s.length : Int) := by omega
    have x1 : (4 : Int) ≤ (s.length : Int) := by omega
    rcases h2 : (s.take 4 == [105, 54, 52, 46]) with _ | _
    all_goals
      go_enter Tryz.func199, Tryz.ntmps199
      go_wp2
      go_ret
      exact ⟨⟨_, rfl⟩, rfl⟩
  · have x0 : ¬ (4 : Int) < (s.length : Int) := by omega
    go_enter Tryz.func199, Tryz.ntmps199
    go_wp2
    go_ret
    exact ⟨⟨_, rfl⟩, rfl⟩
theorem rfn_any (A : Option Addr) (n c : Nat) (B : Option Addr) (m d : Nat) (w : World) : Calls Tryz.prog 200 #[.slice A n c, .slice B m d] w fun e w' => e = .returned (.agg #[.slice A n c, .slice B m d]) ∧ Below w.heap.size w w' := by
  have V := Lib.hid (Var.new w #[.slice A n c, .slice B m d] 36)
  have HB := Lib.hid ((Below.refl w.heap.size w).alloc (Nat.le_refl _) (.cells #[.slice A n c, .slice B m d] 36))
  go_enter Tryz.func200, Tryz.ntmps200
  go_wp2
  refine bodyPost_ret (results_cell_row rfl _ _ w.heap.size _ _ (0, 0) _ rfl V.out Tryz.underlying36 rfl (by kernel_rfl)) rfl ?_
  exact ⟨rfl, HB.out⟩
set_option maxHeartbeats 400000 in
theorem rwidth_any (op : Int) (w : World) : Calls Tryz.prog 114 #[.int .i64 op] w fun e w' => e = .returned (.int .i64 (Mc.widR op)) ∧ Below w.heap.size w w' := by
  obtain ⟨R, hR⟩ : ∃ R, Mc.widR op = R := ⟨_, rfl⟩
  rw [hR]
  unfold Mc.widR at hR
  have HN := Lib.hid (fun W => rname5_any op W)
  have HO := Lib.hid (fun W => rof5_any op W)
  have hn3 := @Mc.of17_len op
  have hnl := Mc.name_len op
  obtain ⟨o, ho⟩ : ∃ o, Mc.ofR op = o := ⟨_, rfl⟩
  rw [ho] at hR HO hn3
  obtain ⟨s, hs⟩ : ∃ s, Opc.name op = s := ⟨_, rfl⟩
  rw [hs] at hR HN hn3 hnl
  clear ho hs
  by_cases h1 : o = 17
  · subst h1
    have hl := hn3 rfl
    have hsz : (ByteArray.mk s.toArray).size = s.length := by simp [ByteArray.size]
    have x0 : (3 : Int) ≤ (s.length : Int) := by omega
    rw [if_neg (by simp)] at hR
    have H1 := Lib.hid (fun W => rwithin_any s [100, 56] (by omega) (by decide) W)
    have H2 := Lib.hid (fun W => rwithin_any s [101, 56] (by omega) (by decide) W)
    have H3 := Lib.hid (fun W => rwithin_any s [100, 49, 54] (by omega) (by decide) W)
    have H4 := Lib.hid (fun W => rwithin_any s [101, 49, 54] (by omega) (by decide) W)
    have H5 := Lib.hid (fun W => rwithin_any s [100, 51, 50] (by omega) (by decide) W)
    have H6 := Lib.hid (fun W => rwithin_any s [101, 51, 50] (by omega) (by decide) W)
    unfold Mc.d8 Mc.e8 Mc.d16 Mc.e16 Mc.d32 Mc.e32 at hR
    obtain ⟨b1, e1⟩ : ∃ b, Mc.withinR s [100, 56] = b := ⟨_, rfl⟩
    obtain ⟨b2, e2⟩ : ∃ b, Mc.withinR s [101, 56] = b := ⟨_, rfl⟩
    obtain ⟨b3, e3⟩ : ∃ b, Mc.withinR s [100, 49, 54] = b := ⟨_, rfl⟩
    obtain ⟨b4, e4⟩ : ∃ b, Mc.withinR s [101, 49, 54] = b := ⟨_, rfl⟩
    obtain ⟨b5, e5⟩ : ∃ b, Mc.withinR s [100, 51, 50] = b := ⟨_, rfl⟩
    obtain ⟨b6, e6⟩ : ∃ b, Mc.withinR s [101, 51, 50] = b := ⟨_, rfl⟩
    rw [e1, e2, e3, e4, e5, e6] at hR
    rw [e1] at H1
    rw [e2] at H2
    rw [e3] at H3
    rw [e4] at H4
    rw [e5] at H5
    rw [e6] at H6
    clear e1 e2 e3 e4 e5 e6 hn3
    go_enter Tryz.func114, Tryz.ntmps114
    go_upto_region 4 with (first
      | (go_at_call 80; refine (HN.out _).mono ?_; rintro e w1 ⟨rfl, hb⟩; have B1 := hb)
      | (go_at_call 151; refine (HO.out _).mono ?_; rintro e w2 ⟨rfl, hb⟩; have B2 := B1.trans (hb.mono B1.size)))
    refine at_code (F := fun W => Hid (Below w.heap.size w W)) (Lib.hid B2) ?_
    clear B1 B2 hb HN HO
    intro W HB
    rw [List.drop_take, List.drop_one] at hR
    obtain ⟨b7, e7⟩ : ∃ b, (s.tail.take 2 == [51, 50]) = b := ⟨_, rfl⟩
    have hR2 : R = if b1 = true ∨ b2 = true then 1 else if b3 = true ∨ b4 = true then 2 else if b5 = true ∨ b6 = true then 4 else if b7 = true then 4 else 8 := by
      rw [← hR, ← e7]; simp
    clear hR
    have hc := Mc.seven_bools b1 b2 b3 b4 b5 b6 b7
    rcases hc with rfl | ⟨rfl, rfl⟩ | ⟨rfl, rfl, rfl⟩ | ⟨rfl, rfl, rfl, rfl⟩ | ⟨rfl, rfl, rfl, rfl, rfl⟩ | ⟨rfl, rfl, rfl, rfl, rfl, rfl⟩ | ⟨rfl, rfl, rfl, rfl, rfl, rfl, rfl⟩ | ⟨rfl, rfl, rfl, rfl, rfl, rfl, rfl⟩
    all_goals
      go_wp2_with (go_at_call 152; first | (with_reducible refine (H1.out _).mono ?_; rintro e w1 ⟨rfl, rfl⟩) | (with_reducible refine (H2.out _).mono ?_; rintro e w1 ⟨rfl, rfl⟩) | (with_reducible refine (H3.out _).mono ?_; rintro e w1 ⟨rfl, rfl⟩) | (with_reducible refine (H4.out _).mono ?_; rintro e w1 ⟨rfl, rfl⟩) | (with_reducible refine (H5.out _).mono ?_; rintro e w1 ⟨rfl, rfl⟩) | (with_reducible refine (H6.out _).mono ?_; rintro e w1 ⟨rfl, rfl⟩))
      go_ret
      exact ⟨by rw [hR2]; simp, HB.out⟩
  · rw [if_pos h1] at hR
    have x0 : ((o : Int) != 17) = true := by simpa using h1
    go_enter Tryz.func114, Tryz.ntmps114
    go_wp2_with (first
      | (go_at_call 80; refine (HN.out _).mono ?_; rintro e w1 ⟨rfl, hb⟩; have B1 := hb)
      | (go_at_call 151; refine (HO.out _).mono ?_; rintro e w2 ⟨rfl, hb⟩; have B2 := B1.trans (hb.mono B1.size)))
    go_ret
    exact ⟨by rw [← hR]; rfl, B2⟩
end Go.Proofs.YtadnfekogmjieaaGreatDoor
set_option linter.unusedVariables false
set_option linter.unusedSimpArgs false
namespace Go.Proofs.YtadnfekogmjieaaGreatDoor
open Go.RowKit
def Mc.sigP (op : Int) : (Nat × Nat) × Bool := match Mc.sigC op with | some p => (p, true) | none => ((0, 0), false)
set_option maxHeartbeats 8000000 in
set_option maxRecDepth 100000 in
theorem rplain_any (op : Int) (w : World) : Calls Tryz.prog 198 #[.int .i64 op] w fun e w' => SgOut (Mc.sigP op) e ∧ Below w.heap.size w w' := by
  obtain ⟨R, hR⟩ : ∃ R, Mc.sigP op = R := ⟨_, rfl⟩
  rw [hR]
  unfold Mc.sigP at hR
  have V := Lib.hid (Var.new w #[.slice none 0 0, .slice none 0 0] 36)
  have HB0 := Lib.hid (Below.refl (w.heap.size + 1) (w.alloc (.cells #[.slice none 0 0, .slice none 0 0] 36)))
  have HB1 := Lib.hid (HB0.out.alloc (by simp) (.cells #[.int .i64 1, .int .i64 1, .int .i64 1] 68))
  by_cases c1 : op = 1 ∨ op = 64525 ∨ op = 64521
  · rcases c1 with rfl | rfl | rfl
    all_goals
      replace hR : R = _ := hR.symm.trans rfl
      replace hR := hR.symm
      go_enter Tryz.func198, Tryz.ntmps198
      have V1 := Lib.hid (V.out.below HB1.out (by omega))
      have B1 := HB1.out
      obtain ⟨q0, q1⟩ := cells2 V1.out
      have z0 := V1.out.froz 0
      have z1 := V1.out.froz 1
      have hlt := V1.out.lt
      go_wp2
      refine bodyPost_ret (results_cell_row_tmp rfl _ _ w.heap.size _ _ (0, 0) _ rfl V1.out Tryz.underlying36 rfl (by kernel_rfl)) rfl ?_
      obtain rfl := hR
      exact ⟨⟨_, _, _, _, rfl⟩, below_one' B1⟩
  simp only [not_or] at c1
  obtain ⟨h1, h64525, h64521⟩ := c1
  by_cases c0 : op = 65 ∨ op = 63 ∨ op = 64528 ∨ op = 66 ∨ op = 210 ∨ op = 64 ∨ op = 64523 ∨ op = 64522 ∨ op = 64520 ∨ op = 64526 ∨ op = 64524 ∨ op = 167 ∨ op = 172 ∨ op = 173
  · rcases c0 with rfl | rfl | rfl | rfl | rfl | rfl | rfl | rfl | rfl | rfl | rfl | rfl | rfl | rfl
    all_goals
      replace hR : R = _ := hR.symm.trans rfl
      replace hR := hR.symm
      go_enter Tryz.func198, Tryz.ntmps198
      go_wp2_with (go_at_call 200; refine (rfn_any _ _ _ _ _ _ _).mono ?_; rintro e w1 ⟨rfl, hb⟩; have B1 := below3 (by first | exact HB1.out | exact HB1.out.alloc (by simp) _ | exact (HB1.out.alloc (by simp) _).alloc (by simp) _) hb; have V1 := Lib.hid (V.out.below B1 (by omega)); obtain ⟨q0, q1⟩ := cells2 V1.out; have z0 := V1.out.froz 0; have z1 := V1.out.froz 1; have hlt := V1.out.lt)
      refine bodyPost_ret (results_cell_row_tmp rfl _ _ w.heap.size _ _ (0, 0) _ rfl ((V1.out.set 0 _).set 1 _) Tryz.underlying36 rfl (by kernel_rfl)) rfl ?_
      obtain rfl := hR
      exact ⟨⟨_, _, _, _, rfl⟩, below_set (below_one' B1) (Nat.le_refl _) _ _⟩
  simp only [not_or] at c0
  obtain ⟨h65, h63, h64528, h66, h210, h64, h64523, h64522, h64520, h64526, h64524, h167, h172, h173⟩ := c0
  have hc : Mc.sigC op = none := by unfold Mc.sigC; simp [h1, h64525, h64521, h65, h63, h64528, h66, h210, h64, h64523, h64522, h64520, h64526, h64524, h167, h172, h173]
  rw [hc] at hR
  dsimp only at hR
  have b1 : (op == 1) = false := by rw [beq_eq_false_iff_ne]; exact h1
  have b64525 : (op == 64525) = false := by rw [beq_eq_false_iff_ne]; exact h64525
  have b64521 : (op == 64521) = false := by rw [beq_eq_false_iff_ne]; exact h64521
  have b65 : (op == 65) = false := by rw [beq_eq_false_iff_ne]; exact h65
  have b63 : (op == 63) = false := by rw [beq_eq_false_iff_ne]; exact h63
  have b64528 : (op == 64528) = false := by rw [beq_eq_false_iff_ne]; exact h64528
  have b66 : (op == 66) = false := by rw [beq_eq_false_iff_ne]; exact h66
  have b210 : (op == 210) = false := by rw [beq_eq_false_iff_ne]; exact h210
  have b64 : (op == 64) = false := by rw [beq_eq_false_iff_ne]; exact h64
  have b64523 : (op == 64523) = false := by rw [beq_eq_false_iff_ne]; exact h64523
  have b64522 : (op == 64522) = false := by rw [beq_eq_false_iff_ne]; exact h64522
  have b64520 : (op == 64520) = false := by rw [beq_eq_false_iff_ne]; exact h64520
  have b64526 : (op == 64526) = false := by rw [beq_eq_false_iff_ne]; exact h64526
  have b64524 : (op == 64524) = false := by rw [beq_eq_false_iff_ne]; exact h64524
  have b167 : (op == 167) = false := by rw [beq_eq_false_iff_ne]; exact h167
  have b172 : (op == 172) = false := by rw [beq_eq_false_iff_ne]; exact h172
  have b173 : (op == 173) = false := by rw [beq_eq_false_iff_ne]; exact h173
  clear hc h1 h64525 h64521 h65 h63 h64528 h66 h210 h64 h64523 h64522 h64520 h64526 h64524 h167 h172 h173
  go_enter Tryz.func198, Tryz.ntmps198
  have V1 := Lib.hid (V.out.below HB1.out (by omega))
  have B1 := HB1.out
  obtain ⟨q0, q1⟩ := cells2 V1.out
  have z0 := V1.out.froz 0
  have z1 := V1.out.froz 1
  have hlt := V1.out.lt
  go_wp2
  refine bodyPost_ret (results_cell_row_tmp rfl _ _ w.heap.size _ _ (0, 0) _ rfl V1.out Tryz.underlying36 rfl (by kernel_rfl)) rfl ?_
  obtain rfl := hR
  exact ⟨⟨_, _, _, _, rfl⟩, below_one' B1⟩
set_option maxHeartbeats 16000000 in
set_option maxRecDepth 100000 in
theorem rsig_any (op : Int) (w : World) : Calls Tryz.prog 149 #[.int .i64 op] w fun e w' => SgOut (Mc.sigR op) e ∧ Below w.heap.size w w' := by
  obtain ⟨R, hR⟩ : ∃ R, Mc.sigR op = R := ⟨_, rfl⟩
  rw [hR]
  unfold Mc.sigR at hR
  have V := Lib.hid (Var.new w #[.slice none 0 0, .slice none 0 0] 36)
  have HB0 := Lib.hid (Below.refl (w.heap.size + 1) (w.alloc (.cells #[.slice none 0 0, .slice none 0 0] 36)))
  have HP := Lib.hid (fun W => rplain_any op W)
  unfold Mc.sigP at HP
  rcases hc : Mc.sigC op with _ | ⟨n, m⟩
  case some =>
    rw [hc] at hR HP
    dsimp only at hR HP
    go_enter Tryz.func149, Tryz.ntmps149
    go_wp2_with (go_at_call 198; refine (HP.out _).mono ?_; rintro e w1 ⟨⟨A, c, B, d, rfl⟩, hb⟩; have B1 := (below3 HB0.out hb).alloc (by have := (below3 HB0.out hb).size; simpa using this) (.cells #[.slice A n c, .slice B m d] 36); have V1 := Lib.hid (V.out.below B1 (by omega)); obtain ⟨q0, q1⟩ := cells2 V1.out; have z0 := V1.out.froz 0; have z1 := V1.out.froz 1; have hlt := V1.out.lt; dsimp only)
    refine bodyPost_ret (results_cell_row_tmp rfl _ _ w.heap.size _ _ (0, 0) _ rfl ((V1.out.set 0 _).set 1 _) Tryz.underlying36 rfl (by kernel_rfl)) rfl ?_
    obtain rfl := hR
    exact ⟨⟨_, _, _, _, rfl⟩, below_set (below_one' B1) (Nat.le_refl _) _ _⟩
  rw [hc] at hR HP
  dsimp only at hR HP
  have HN := Lib.hid (fun W => rname5_any op W)
  have HO := Lib.hid (fun W => rof5_any op W)
  have hnl := Mc.name_len op
  obtain ⟨o, ho⟩ : ∃ o, Mc.ofR op = o := ⟨_, rfl⟩
  rw [ho] at hR HO
  obtain ⟨s, hs⟩ : ∃ s, Opc.name op = s := ⟨_, rfl⟩
  rw [hs] at hR HN hnl
  have H1 := Lib.hid (fun W => rwithin_any s Mc.lLoad (by omega) (by decide) W)
  have H2 := Lib.hid (fun W => rwithin_any s Mc.lExt (by omega) (by decide) W)
  obtain ⟨b1, e1⟩ : ∃ b, Mc.withinR s Mc.lLoad = b := ⟨_, rfl⟩
  obtain ⟨b2, e2⟩ : ∃ b, Mc.withinR s Mc.lExt = b := ⟨_, rfl⟩
  rw [e1] at H1 hR
  rw [e2] at H2 hR
  unfold Mc.lLoad at H1
  unfold Mc.lExt at H2
  have HT := Lib.hid (fun W => rtyp_any s W)
  clear e1 e2 hs ho hc hnl
  go_enter Tryz.func149, Tryz.ntmps149
  go_upto_region 7 with (first
    | (go_at_call 198; refine (HP.out _).mono ?_; rintro e w1 ⟨⟨A, c, B, d, rfl⟩, hb⟩; have B1 := (below3 HB0.out hb).alloc (by have := (below3 HB0.out hb).size; simpa using this) (.cells #[.slice A 0 c, .slice B 0 d] 36); dsimp only)
    | (go_at_call 80; refine (HN.out _).mono ?_; rintro e w2 ⟨rfl, hb2⟩; have B2 := below3 B1 hb2)
    | (go_at_call 199; refine (HT.out _).mono ?_; rintro e w3 ⟨⟨t, rfl⟩, rfl⟩))
  refine at_code (F := fun W => Hid (Below (w.heap.size + 1) (w.alloc (.cells #[.slice none 0 0, .slice none 0 0] 36)) W)) (Lib.hid (by first | exact (B2.alloc (by have := B2.size; simpa using this) _).alloc (by have := B2.size; simp; simp at this; omega) _ | exact B2)) ?_
  clear B1 B2 hb hb2 HP HN HT HB0
  intro W HB
  by_cases h1 : o = 17
  · subst h1
    rcases b1 with _ | _
    · rw [if_neg (by simp), if_pos rfl] at hR
      replace hR := hR.symm
      go_wp2_with (first
        | (go_at_call 151; refine (HO.out _).mono ?_; rintro e w4 ⟨rfl, hb⟩; have HB := Lib.hid (below3 HB.out hb); have B1 := HB.out; have V1 := Lib.hid (V.out.below B1 (by omega)); obtain ⟨q0, q1⟩ := cells2 V1.out; have z0 := V1.out.froz 0; have z1 := V1.out.froz 1; have hlt := V1.out.lt)
        | (go_at_call 152; first | (with_reducible refine (H1.out _).mono ?_; rintro e w1 ⟨rfl, rfl⟩) | (with_reducible refine (H2.out _).mono ?_; rintro e w1 ⟨rfl, rfl⟩))
        | (go_at_call 200; refine (rfn_any _ _ _ _ _ _ _).mono ?_; rintro e w6 ⟨rfl, hb⟩; have HB := Lib.hid (below3 (by first | exact HB.out | exact HB.out.alloc (by have := HB.out.size; simpa using this) _ | exact (HB.out.alloc (by have := HB.out.size; simpa using this) _).alloc (by have := HB.out.size; simp at this ⊢; omega) _) hb); have B1 := HB.out; have V1 := Lib.hid (V.out.below B1 (by omega)); obtain ⟨q0, q1⟩ := cells2 V1.out; have z0 := V1.out.froz 0; have z1 := V1.out.froz 1; have hlt := V1.out.lt))
      refine bodyPost_ret (results_cell_row_tmp rfl _ _ w.heap.size _ _ (0, 0) _ rfl ((V1.out.set 0 _).set 1 _) Tryz.underlying36 rfl (by kernel_rfl)) rfl ?_
      obtain rfl := hR
      exact ⟨⟨_, _, _, _, rfl⟩, below_set (below_one' B1) (Nat.le_refl _) _ _⟩
    · rw [if_pos (by simp)] at hR
      replace hR := hR.symm
      go_wp2_with (first
        | (go_at_call 151; refine (HO.out _).mono ?_; rintro e w4 ⟨rfl, hb⟩; have HB := Lib.hid (below3 HB.out hb); have B1 := HB.out; have V1 := Lib.hid (V.out.below B1 (by omega)); obtain ⟨q0, q1⟩ := cells2 V1.out; have z0 := V1.out.froz 0; have z1 := V1.out.froz 1; have hlt := V1.out.lt)
        | (go_at_call 152; first | (with_reducible refine (H1.out _).mono ?_; rintro e w1 ⟨rfl, rfl⟩) | (with_reducible refine (H2.out _).mono ?_; rintro e w1 ⟨rfl, rfl⟩))
        | (go_at_call 200; refine (rfn_any _ _ _ _ _ _ _).mono ?_; rintro e w6 ⟨rfl, hb⟩; have HB := Lib.hid (below3 (by first | exact HB.out | exact HB.out.alloc (by have := HB.out.size; simpa using this) _ | exact (HB.out.alloc (by have := HB.out.size; simpa using this) _).alloc (by have := HB.out.size; simp at this ⊢; omega) _) hb); have B1 := HB.out; have V1 := Lib.hid (V.out.below B1 (by omega)); obtain ⟨q0, q1⟩ := cells2 V1.out; have z0 := V1.out.froz 0; have z1 := V1.out.froz 1; have hlt := V1.out.lt))
      refine bodyPost_ret (results_cell_row_tmp rfl _ _ w.heap.size _ _ (0, 0) _ rfl ((V1.out.set 0 _).set 1 _) Tryz.underlying36 rfl (by kernel_rfl)) rfl ?_
      obtain rfl := hR
      exact ⟨⟨_, _, _, _, rfl⟩, below_set (below_one' B1) (Nat.le_refl _) _ _⟩
  rw [if_neg (fun h => h1 h.1), if_neg h1] at hR
  have g0 : (o == 17) = false := by simpa using h1
  clear h1 H1
  have hiv : op ≤ 68 ∨ (69 ≤ op ∧ op ≤ 69) ∨ (70 ≤ op ∧ op ≤ 79) ∨ (80 ≤ op ∧ op ≤ 80) ∨ (81 ≤ op ∧ op ≤ 90) ∨ (91 ≤ op ∧ op ≤ 102) ∨ (103 ≤ op ∧ op ≤ 105) ∨ (106 ≤ op ∧ op ≤ 120) ∨ (121 ≤ op ∧ op ≤ 123) ∨ (124 ≤ op ∧ op ≤ 138) ∨ 139 ≤ op := by omega
  rcases hiv with hi | hi | hi | hi | hi | hi | hi | hi | hi | hi | hi
  all_goals
    first | (have f0 : (op == 69) = true := (by rw [beq_iff_eq]; omega)) | (have f0 : (op == 69) = false := (by rw [beq_eq_false_iff_ne]; omega))
    first | (have f1 : (op == 80) = true := (by rw [beq_iff_eq]; omega)) | (have f1 : (op == 80) = false := (by rw [beq_eq_false_iff_ne]; omega))
    first | (have f2 : (69 : Int) < op := by omega) | (have f2 : ¬ (69 : Int) < op := by omega)
    first | (have f3 : op ≤ 79 := by omega) | (have f3 : ¬ op ≤ 79 := by omega)
    first | (have f4 : (80 : Int) < op := by omega) | (have f4 : ¬ (80 : Int) < op := by omega)
    first | (have f5 : op ≤ 90 := by omega) | (have f5 : ¬ op ≤ 90 := by omega)
    first | (have f6 : (103 : Int) ≤ op := by omega) | (have f6 : ¬ (103 : Int) ≤ op := by omega)
    first | (have f7 : op ≤ 105 := by omega) | (have f7 : ¬ op ≤ 105 := by omega)
    first | (have f8 : (121 : Int) ≤ op := by omega) | (have f8 : ¬ (121 : Int) ≤ op := by omega)
    first | (have f9 : op ≤ 123 := by omega) | (have f9 : ¬ op ≤ 123 := by omega)
    first | (have f10 : (106 : Int) ≤ op := by omega) | (have f10 : ¬ (106 : Int) ≤ op := by omega)
    first | (have f11 : op ≤ 120 := by omega) | (have f11 : ¬ op ≤ 120 := by omega)
    first | (have f12 : (124 : Int) ≤ op := by omega) | (have f12 : ¬ (124 : Int) ≤ op := by omega)
    first | (have f13 : op ≤ 138 := by omega) | (have f13 : ¬ op ≤ 138 := by omega)
    first | rw [if_pos (by omega)] at hR | rw [if_neg (by omega), if_pos (by omega)] at hR | rw [if_neg (by omega), if_neg (by omega), if_pos (by omega)] at hR | (rw [if_neg (by omega), if_neg (by omega)] at hR; rcases b2 with _ | _; (first | rw [if_neg (by rintro (h | h | h) <;> first | omega | (revert h; decide)), if_pos (by omega)] at hR | rw [if_neg (by rintro (h | h | h) <;> first | omega | (revert h; decide)), if_neg (by omega)] at hR); rotate_left; rw [if_pos (by simp)] at hR)
    all_goals
      replace hR := hR.symm
      go_wp2_with (first
        | (go_at_call 151; refine (HO.out _).mono ?_; rintro e w4 ⟨rfl, hb⟩; have HB := Lib.hid (below3 HB.out hb); have B1 := HB.out; have V1 := Lib.hid (V.out.below B1 (by omega)); obtain ⟨q0, q1⟩ := cells2 V1.out; have z0 := V1.out.froz 0; have z1 := V1.out.froz 1; have hlt := V1.out.lt)
        | (go_at_call 152; first | (with_reducible refine (H1.out _).mono ?_; rintro e w1 ⟨rfl, rfl⟩) | (with_reducible refine (H2.out _).mono ?_; rintro e w1 ⟨rfl, rfl⟩))
        | (go_at_call 200; refine (rfn_any _ _ _ _ _ _ _).mono ?_; rintro e w6 ⟨rfl, hb⟩; have HB := Lib.hid (below3 (by first | exact HB.out | exact HB.out.alloc (by have := HB.out.size; simpa using this) _ | exact (HB.out.alloc (by have := HB.out.size; simpa using this) _).alloc (by have := HB.out.size; simp at this ⊢; omega) _) hb); have B1 := HB.out; have V1 := Lib.hid (V.out.below B1 (by omega)); obtain ⟨q0, q1⟩ := cells2 V1.out; have z0 := V1.out.froz 0; have z1 := V1.out.froz 1; have hlt := V1.out.lt))
      refine bodyPost_ret (results_cell_row_tmp rfl _ _ w.heap.size _ _ (0, 0) _ rfl ((V1.out.set 0 _).set 1 _) Tryz.underlying36 rfl (by kernel_rfl)) rfl ?_
      obtain rfl := hR
      exact ⟨⟨_, _, _, _, rfl⟩, below_set (below_one' B1) (Nat.le_refl _) _ _⟩
end Go.Proofs.YtadnfekogmjieaaGreatDoor
