/-
  The walk of rows: a node with a list among its children.
-/
import Derived.Test.YtnjhbhbohnjckaaTreeRows2
set_option linter.unusedVariables false
set_option linter.unusedSimpArgs false
namespace Go.Proofs.Ytnjhbhbohnjckaa
open Go.RowKit
open Tree (Tr)

set_option maxHeartbeats 4000000 in
set_option maxRecDepth 100000 in
theorem rows_any : ∀ (f : Nat) (l : List Tr), Tree.counts l < f → ∀ (k p : Int) (t : List UInt8) (A : Option Addr) (c : Nat) (S : Nat → Prop) (w : World), Lies w S A l → (∀ g, S g → g < w.heap.size) → (Tree.show1 (.mk k p t l)).length ≤ 1000000000 → Tree.counts l ≤ 1000000 → (k = 0 → (Tree.shows l).length ≤ 1000000000) → l.length ≤ c → c ≤ maxLen →
    Calls Try.prog 31 #[.agg #[.int .i64 k, .int .i64 p, .string ⟨t.toArray⟩, .slice A l.length c]] w (RetRows (.mk k p t l) w) := by
  intro f
  induction f with
  | zero => intro l h; omega
  | succ f ih =>
    intro l hf k p t A c S w hl hS hlen hct hsl hcap hcm
    by_cases hno : k = 0 ∧ Tree.firstL l < l.length
    rotate_left
    · exact rows_one k p t l A c S w hl hS hlen hct hsl hno
    have hr := rowsTo_all k p t l hno
    have hst := rowsTo_start l (Tree.firstL l)
    have hll := Tree.len_le_counts l
    obtain ⟨rfl, hfl⟩ := hno
    replace hsl := hsl rfl
    have hg0 : 0 < l.length := by omega
    obtain ⟨g, o, rfl, hg, -⟩ := hl.get 0 hg0
    have hb1 := (Below.refl w.heap.size w).alloc (Nat.le_refl _) (Obj.cells #[.int .i64 0, .int .i64 p, .string ⟨t.toArray⟩, .slice (some ⟨g, o, none⟩) l.length c] 36)
    have hS1 : ∀ g', S g' → g' < (w.alloc (Obj.cells #[.int .i64 0, .int .i64 p, .string ⟨t.toArray⟩, .slice (some ⟨g, o, none⟩) l.length c] 36)).heap.size := fun g' hg' => Nat.lt_of_lt_of_le (hS g' hg') hb1.size
    have hl1 := hl.keep (fun g hg => hb1.block g (hS g hg)) (fun _ h => h)
    have HF := Lib.hid (first_any l 0 p ⟨t.toArray⟩ _ c S _ hl1 hS1 (by omega) (Tree.firstL l) (if_pos ⟨rfl, hfl⟩))
    obtain ⟨m, hm⟩ : ∃ m, Tree.firstL l = m := ⟨_, rfl⟩
    rw [hm] at HF hr hst hfl
    have hx0 := heap_alloc_new w (Obj.cells #[.int .i64 0, .int .i64 p, .string ⟨t.toArray⟩, .slice (some ⟨g, o, none⟩) l.length c] 36)
    have hms := Tree.shows_take_len l m
    have hmc := Tree.counts_take_le l m
    have hmlen : (l.take m).length = m := by rw [List.length_take]; omega
    have hshow := fun (W : World) (hb : Below w.heap.size w W) => shows_any _ (l.take m) (Nat.lt_succ_self _) (by omega) (by omega) (some ⟨g, o, none⟩) c S W ((hl.keep (fun g hg => hb.block g (hS g hg)) (fun _ h => h)).take m) (fun g hg => Nat.lt_of_lt_of_le (hS g hg) hb.size)
    rw [hmlen] at hshow
    obtain ⟨N, hN⟩ : ∃ N, Tree.shows (l.take m) = N := ⟨_, rfl⟩
    rw [hN] at hshow hst hms
    have hNl : N.length ≤ 1000000000 := by omega
    have HSH := Lib.hid hshow
    have HR := Lib.hid hr
    have HST := Lib.hid hst
    have HL := Lib.hid hl
    have gm : decide ((m : Int) < 0) = false := by simp
    have gm0 : (0 : Int) ≤ (m : Int) := Int.natCast_nonneg _
    have gm1 : (m : Int) ≤ (l.length : Int) := by omega
    have gm2 : (m : Int) ≤ (c : Int) := by omega
    have hcm' : (c : Int) ≤ 9223372036854775807 := by unfold maxLen at hcm; omega
    clear hshow hl hl1 hr hst hm hN hms hmc hmlen hx0
    go_enter Try.func31, Try.ntmps31
    go_wp2_with fail
    refine HF.out.mono ?_
    rintro e w1 ⟨rfl, hb⟩
    have hx0 := heap_alloc_new w (Obj.cells #[.int .i64 0, .int .i64 p, .string ⟨t.toArray⟩, .slice (some ⟨g, o, none⟩) l.length c] 36)
    have hb2 := hb1.trans (hb.mono hb1.size)
    have hx := (hb.block w.heap.size (by simp)).trans hx0
    have x3 : w1.cell? ⟨w.heap.size, 3, none⟩ = _ := cell_of_row _ _ _ _ _ _ hx
    simp only [List.getElem?_toArray, List.getElem?_cons_succ, List.getElem?_cons_zero] at x3
    clear hx0
    go_wp2_with fail
    refine (HSH.out _ hb2).mono ?_
    rintro e w2 ⟨rfl, hb3⟩
    have hb4 := hb2.trans (hb3.mono hb2.size)
    have hx2 := (hb3.block w.heap.size (Nat.lt_of_lt_of_le (by simp) hb.size)).trans hx
    have y3 : w2.cell? ⟨w.heap.size, 3, none⟩ = _ := cell_of_row _ _ _ _ _ _ hx2
    simp only [List.getElem?_toArray, List.getElem?_cons_succ, List.getElem?_cons_zero] at y3
    have hz : w.heap.size < w2.heap.size := (Array.getElem?_eq_some_iff.1 hx2).1
    have hz0 : w.heap.size ≠ w2.heap.size := by omega
    have gd : ((l.length - m : Nat) : Int) = (l.length : Int) - (m : Int) := by omega
    go_wp2_with fail
    have hcat : (({ data := #[40] } : ByteArray) ++ ({ data := N.toArray } : ByteArray)) = ⟨(40 :: N).toArray⟩ := by apply ByteArray.ext; simp
    have hown0 := World.ownsRow_lit (e := 9) (size := 1) w2 #[.string ⟨(40 :: N).toArray⟩] 1 hb4.size (by unfold maxLen; omega) rfl
    rw [← hcat] at hown0
    have HCAT := Lib.hid hcat
    clear hcat
    go_loopw [4, 28] (fun a i wr => ∃ (j : Nat) (Ar : Option Addr) (cr : Nat), m + j ≤ l.length ∧ a = .slice Ar (rowsTo l m (m + j)).length cr ∧ i = .int .i64 j ∧ wr.ownsRow w.heap.size 9 1 (.slice Ar (rowsTo l m (m + j)).length cr) (rowsTo l m (m + j)).length (strL (rowsTo l m (m + j))) ∧ Below w.heap.size w wr) (fun _ i _ => l.length - m - (intOf i).toNat)
    case atStart =>
      refine ⟨0, some ⟨w2.heap.size, 0, none⟩, 1, by omega, ?_, rfl, ?_, hb4.alloc hb4.size _⟩
      · rw [Nat.add_zero, HST.out]; rfl
      · rw [Nat.add_zero, HST.out]
        show World.ownsRow _ _ _ _ (.slice _ 1 1) 1 [.string ⟨(40 :: N).toArray⟩]
        rw [← HCAT.out]; exact hown0
    case round =>
      obtain ⟨j, Ar, cr, hjm, rfl, rfl, hown, hb⟩ := hrel
      by_cases hjl : m + j < l.length
      · have hdl : j < (l.drop m).length := by rw [List.length_drop]; omega
        obtain ⟨g', o', hA, hg', c0, c1, c2, A', c', c3, hl', hcc, hccm⟩ := (HL.out.drop m).get j hdl
        injection hA with hA
        injection hA with e1 e2
        subst e1 e2
        have hsz := hb.size
        have hgl := hS _ hg
        have d0 := (hb.cell (p := ⟨g, o + m * 4 + j * 4, none⟩) hgl).trans c0
        have d1 := (hb.cell (p := ⟨g, o + m * 4 + j * 4 + 1, none⟩) hgl).trans c1
        have d2 := (hb.cell (p := ⟨g, o + m * 4 + j * 4 + 2, none⟩) hgl).trans c2
        have d3 := (hb.cell (p := ⟨g, o + m * 4 + j * 4 + 3, none⟩) hgl).trans c3
        have hi0 : (0 : Int) ≤ (j : Int) := Int.natCast_nonneg _
        have hi1 : (j : Int) < (l.length : Int) - (m : Int) := by omega
        have hstep := rowsTo_step l m (m + j) (by omega) hjl
        have hlenj := Tree.rowsTo_len l m (m + j) (by omega) (by omega)
        have hlenj1 := Tree.rowsTo_len l m (m + j + 1) (by omega) (by omega)
        have hN0 := Tree.show1_len l (m + j) hjl
        have hct2 := Tree.counts_take l (m + j) hjl
        have hct3 := Tree.counts_take_le l (m + j + 1)
        have hline := Tree.rows_line l[m + j]
        have hge : (l.drop m)[j] = l[m + j] := List.getElem_drop
        rw [hge] at d0 d1 d2 d3 hl' hcc
        obtain ⟨x, hx⟩ : ∃ x, l[m + j] = x := ⟨_, rfl⟩
        rw [hx] at d0 d1 d2 d3 hl' hcc hstep hN0 hct2 hline
        clear c0 c1 c2 c3 hx hge
        obtain ⟨mk, mp, mt, ml⟩ := x
        dsimp only [Tree.Tr.kind, Tree.Tr.pos, Tree.Tr.text, Tree.Tr.l] at d0 d1 d2 d3 hl' hcc
        have hcx : Tree.count (.mk mk mp mt ml) = 1 + Tree.counts ml := by rw [Tree.count]
        rw [hcx] at hct2 hline
        have hb5 := hb.alloc hsz (Obj.cells #[.int .i64 mk, .int .i64 mp, .string ⟨mt.toArray⟩, .slice A' ml.length c'] 36)
        have hshm : mk = 0 → (Tree.shows ml).length ≤ 1000000000 := by
          rintro rfl
          rw [Tree.show1, if_neg (by decide), if_neg (by decide), if_pos rfl] at hN0
          simp only [List.length_append, List.length_singleton] at hN0
          omega
        have hcall := ih ml (by omega) mk mp mt A' c' S _ (hl'.keep (fun g hg => hb5.block g (hS g hg)) (fun _ h => h)) (fun g hg => Nat.lt_of_lt_of_le (hS g hg) hb5.size) (by omega) (by omega) hshm hcc hccm
        unfold RetRows at hcall
        obtain ⟨R, hR⟩ : ∃ R, Tree.rows (.mk mk mp mt ml) = R := ⟨_, rfl⟩
        rw [hR] at hcall hstep hline
        obtain ⟨T, hT⟩ : ∃ T, rowsTo l m (m + j) = T := ⟨_, rfl⟩
        rw [hT] at hown hstep hlenj ⊢
        have hRT : T.length + R.length ≤ 1 + Tree.counts l := by
          rw [hstep, List.length_append, List.length_map] at hlenj1; exact hlenj1
        have HC := Lib.hid hcall
        have HT := Lib.hid hstep
        have HLN : ∀ x ∈ R, x.length ≤ 1100000000 := fun x hx => by have := hline x hx; omega
        have HLI := Lib.hid HLN
        clear hcall hstep hline HLN hl' hlenj hlenj1 hN0 hct2 hct3 hR hT hcx
        have ho1 := hown.alloc (Obj.cells #[.int .i64 mk, .int .i64 mp, .string ⟨mt.toArray⟩, .slice A' ml.length c'] 36)
        go_wp2_with fail
        refine HC.out.mono ?_
        rintro e w5 ⟨A5, c5, rfl, hown5, hb6⟩
        have ho2 := own_below ho1 hb6 (Nat.le_refl _)
        have hb7 : Below w.heap.size w w5 := hb5.trans (hb6.mono hb5.size)
        clear ho1
        go_wp2_with fail
        have hW1 : (wr.alloc (Obj.cells #[.int .i64 mk, .int .i64 mp, .string ⟨mt.toArray⟩, .slice A' ml.length c'] 36)).heap.size = wr.heap.size + 1 := by simp
        rw [hW1] at hown5 hb6
        have hsz6 := hb6.size
        have haw : ∀ b, Value.ownBlock (.slice Ar T.length cr) = some b → b < wr.heap.size + 1 := fun b h => by have := (hown.lt b h).2; omega
        clear hown hW1 hb5
        go_loopw [4, 35] (fun a i wq => ∃ (q : Nat) (Aq : Option Addr) (cq : Nat), q ≤ R.length ∧ a = .slice Aq (T.length + q) cq ∧ i = .int .i64 q ∧ wq.ownsRow w.heap.size 9 1 (.slice Aq (T.length + q) cq) (T.length + q) (strL (T ++ (R.take q).map ([32, 32] ++ ·))) ∧ Aside (wr.heap.size + 1) w5 wq (.slice Aq (T.length + q) cq) ∧ Below w.heap.size w wq) (fun _ i _ => R.length - (intOf i).toNat)
        case atStart =>
          exact ⟨0, Ar, cr, by omega, rfl, rfl, by rw [List.take_zero, List.map_nil, List.append_nil]; exact ho2, ⟨Nat.le_refl _, fun _ _ _ => rfl, fun b h => .inl (haw b h)⟩, hb7⟩
        case round =>
          clear ho2
          obtain ⟨q, Aq, cq, hq, rfl, rfl, hownq, has, hbq⟩ := hrel
          by_cases hqr : q < R.length
          · have hsq := hbq.size
            have h5 := has.own hown5
            obtain ⟨g5, cap5, hv, -, hg5⟩ := h5.form (by omega)
            injection hv with hA _ hc
            subst hA hc
            have e5 := h5.cellAt q (by omega)
            have hgq : (strL R)[q]? = some (.string ⟨R[q].toArray⟩) := by simp [strL, hqr]
            rw [hgq] at e5
            have hql := HLI.out R[q] (List.getElem_mem hqr)
            have hap : strL (T ++ (R.take (q + 1)).map ([32, 32] ++ ·)) = strL (T ++ (R.take q).map ([32, 32] ++ ·)) ++ [.string ⟨(32 :: 32 :: R[q]).toArray⟩] := by
              rw [List.take_succ_eq_append_getElem hqr, List.map_append, ← List.append_assoc]; unfold strL; rw [List.map_append]; rfl
            obtain ⟨X, hX⟩ : ∃ X, R[q] = X := ⟨_, rfl⟩
            rw [hX] at e5 hap hql
            have hk0 : (0 : Int) ≤ (q : Int) := Int.natCast_nonneg _
            have hk1 : (q : Int) < (R.length : Int) := by omega
            have HP := Lib.hid hap
            clear hap hgq hX
            have hcat : (({ data := #[32, 32] } : ByteArray) ++ ({ data := X.toArray } : ByteArray)) = ⟨(32 :: 32 :: X).toArray⟩ := by apply ByteArray.ext; simp
            obtain ⟨ii, ti0, hz0, hz1, hz2⟩ := info_parts info_strs
            go_wp2_with (at_builtin; (refine app_one _ _ rfl (.tmp 39) (.tmp 42) 66 rfl w.heap.size 9 ii _ 1 16 Try.underlying66 ti0 hz0 hz1 hz2 rfl (by omega) rfl (one_oneS rfl) _ (T.length + q) _ rfl hownq wr.heap.size rfl rfl (by omega) (by omega) hsq ?_); intro A7 c7 w7 hown7 hg7 hat7)
            have has7 := has.step hg7 (by omega) hat7
            have hb8 := hbq.trans (below_own hownq hg7 hsq)
            rw [show T.length + q + 1 = T.length + (q + 1) from rfl] at hown7 has7
            rw [show strL (T ++ (R.take q).map ([32, 32] ++ ·)) ++ #[Value.string ⟨(32 :: 32 :: X).toArray⟩].toList = strL (T ++ (R.take (q + 1)).map ([32, 32] ++ ·)) from HP.out.symm] at hown7
            clear hg7 hat7 has hownq
            go_roundw
            case rel => exact ⟨q + 1, A7, c7, by omega, rfl, by go_num, hown7, has7, hb8⟩
            case measure => simp [intOf]; omega
          · obtain rfl : q = R.length := by omega
            rw [List.take_length, ← HT.out, show T.length + R.length = (rowsTo l m (m + j + 1)).length from by rw [HT.out, List.length_append, List.length_map]] at hownq
            have hle : T.length + R.length = (rowsTo l m (m + (j + 1))).length := by rw [show m + (j + 1) = m + j + 1 from rfl, HT.out, List.length_append, List.length_map]
            go_wp2
            go_roundw
            case rel => exact ⟨j + 1, Aq, cq, by omega, by rw [hle], by go_num, hownq, hbq⟩
            case measure => simp [intOf]; omega
      · obtain ⟨T, hT⟩ : ∃ T, rowsTo l m (m + j) = T := ⟨_, rfl⟩
        have hT2 := hT
        rw [show m + j = l.length from by omega] at hT2
        rw [hT] at hown ⊢
        have hTne : T ≠ [] := by rw [← hT]; unfold rowsTo; simp
        have hRr := HR.out
        rw [hT2] at hRr
        obtain ⟨Y, y, rfl⟩ : ∃ Y y, T = Y ++ [y] := ⟨T.dropLast, T.getLast hTne, (List.dropLast_concat_getLast hTne).symm⟩
        have hsh : Tree.shut (Y ++ [y]) = Y ++ [y ++ [41]] := by unfold Tree.shut; simp [List.getLastD_eq_getLast?]
        rw [hsh] at hRr
        have hyl : y.length ≤ 1100000000 := by
          have hsl2 := Tree.shows_take_le l m
          have := Tree.rows_line (.mk 0 p t l) (y ++ [41]) (by rw [hRr]; simp)
          rw [Tree.count, List.length_append] at this
          omega
        have hYl : Y.length ≤ 1000000000 := by
          have := Tree.rowsTo_len l m l.length (by omega) (Nat.le_refl _)
          rw [hT2, List.length_append] at this
          omega
        have hlen1 : (Y ++ [y]).length = Y.length + 1 := by simp
        rw [hlen1] at hown ⊢
        obtain ⟨g6, cap6, hv, -, hg6⟩ := hown.form (by omega)
        injection hv with hA _ hc
        subst hA hc
        have hsz := hb.size
        have e6 := hown.cellAt Y.length (by omega)
        have f6 := hown.frozenAt Y.length
        rw [show (strL (Y ++ [y]))[Y.length]? = some (.string ⟨y.toArray⟩) from by simp [strL]] at e6
        have hcat2 : (({ data := y.toArray } : ByteArray) ++ ({ data := #[41] } : ByteArray)) = ⟨(y ++ [41]).toArray⟩ := by apply ByteArray.ext; simp
        have hset : (strL (Y ++ [y])).set Y.length (.string ⟨(y ++ [41]).toArray⟩) = strL (Y ++ [y ++ [41]]) := by simp [strL]
        have hst6 := hown.stored Y.length (.string ⟨(y ++ [41]).toArray⟩)
        rw [hset] at hst6
        have hi0 : (0 : Int) ≤ (Y.length : Int) := Int.natCast_nonneg _
        have hi1 : (Y.length : Int) < (Y.length : Int) + 1 := by omega
        have hb9 := hb.trans (below_own hown hst6.2 hsz)
        have HRR := Lib.hid hRr
        have hown9 := hst6.1
        clear hRr hset hsh hT hT2 hst6 hown hTne
        go_wp2_with fail
        go_ret
        have hl3 : (Y ++ [y ++ [41]]).length = Y.length + 1 := by simp
        unfold RetRows
        rw [HRR.out, hl3]
        exact ⟨_, _, rfl, hown9, hb9⟩
end Go.Proofs.Ytnjhbhbohnjckaa
