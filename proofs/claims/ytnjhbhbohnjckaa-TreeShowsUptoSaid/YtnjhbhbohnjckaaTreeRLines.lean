/-
  The walk of the reference's lines.
-/
import Derived.Test.YtnjhbhbohnjckaaTreeRLinesP
import Derived.Test.YtnjhbhbohnjckaaTreeEnv
import Derived.Test.YtnjhbhbohnjckaaTreeFirst
import Derived.Test.YtnjhbhbohnjckaaTreeRefShow
import Derived.Deep.AppendLies
import Derived.Deep.RegionHeld3
import Derived.Laws.OwnMore
set_option linter.unusedVariables false
set_option linter.unusedSimpArgs false
namespace Go.Proofs.Ytnjhbhbohnjckaa
open Go.RowKit
open Tree (Tr)

def Boxed (k p : Int) (t : List UInt8) (A : Option Addr) (l : List Tr) (c : Nat) (w w' : World) : Prop :=
  Var w' w.heap.size #[.int .i64 k, .int .i64 p, .string ⟨t.toArray⟩, .slice A l.length c] 43 ∧ Below w.heap.size w w'
theorem bytes_cat (a b : List UInt8) : ({ data := a.toArray } : ByteArray) ++ ({ data := b.toArray } : ByteArray) = ⟨(a ++ b).toArray⟩ := by
  apply ByteArray.ext
  rw [ByteArray.data_append]
  apply Array.ext'
  simp

set_option maxHeartbeats 4000000 in
set_option maxRecDepth 100000 in
theorem refLines_one (k p : Int) (t b : List UInt8) (l : List Tr) (A : Option Addr) (c : Nat) (S : Nat → Prop) (w : World) (hl : Lies w S A l) (hS : ∀ g, S g → g < w.heap.size) (hlen : (Tree.show1 (.mk k p t l)).length ≤ 1000000000) (hct : Tree.counts l ≤ 1000000) (hsl : k = 0 → (Tree.shows l).length ≤ 1000000000) (hbl : b.length ≤ 100000000) (hno : ¬ (k = 0 ∧ Tree.firstL l < l.length)) :
    Calls Try.prog 34 #[.agg #[.int .i64 k, .int .i64 p, .string ⟨t.toArray⟩, .slice A l.length c], .string ⟨b.toArray⟩] w (RetRLines (.mk k p t l) b w) := by
  have hr : Tree.rows (.mk k p t l) = [Tree.show1 (.mk k p t l)] := by rw [Tree.rows, if_neg hno]
  unfold RetRLines
  rw [hr]
  have hll := Tree.len_le_counts l
  have hfl := Tree.firstL_le l
  have hb1 := (Below.refl w.heap.size w).alloc (Nat.le_refl _) (Obj.cells #[.int .i64 k, .int .i64 p, .string ⟨t.toArray⟩, .slice A l.length c] 43)
  have hS1 : ∀ g, S g → g < (w.alloc (Obj.cells #[.int .i64 k, .int .i64 p, .string ⟨t.toArray⟩, .slice A l.length c] 43)).heap.size := fun g hg => Nat.lt_of_lt_of_le (hS g hg) hb1.size
  have hl1 := hl.keep (fun g hg => hb1.block g (hS g hg)) (fun _ h => h)
  have HF := Lib.hid (lists_any l A c S _ hl1 hS1 (by omega))
  have hx0 := heap_alloc_new w (Obj.cells #[.int .i64 k, .int .i64 p, .string ⟨t.toArray⟩, .slice A l.length c] 43)
  obtain ⟨N, hN⟩ : ∃ N, Tree.show1 (.mk k p t l) = N := ⟨_, rfl⟩
  have hshow := fun (W : World) (hb : Below w.heap.size w W) => refShow_of k p (fun h => refShows_any _ l (Nat.lt_succ_self _) (hsl h) hct) t A c S W (hl.keep (fun g hg => hb.block g (hS g hg)) (fun _ h => h)) (fun g hg => Nat.lt_of_lt_of_le (hS g hg) hb.size) N.length (by rw [hN]) (by rw [← hN]; exact hlen)
  rw [hN] at hshow ⊢
  have hNl : N.length ≤ 1000000000 := by rw [← hN]; exact hlen
  have HSH := Lib.hid hshow
  obtain ⟨m, hm⟩ : ∃ m, Tree.firstL l = m := ⟨_, rfl⟩
  rw [hm] at HF hno hfl
  have htest : (k != 0) = true ∨ ((k != 0) = false ∧ ((m : Int) == (l.length : Int)) = true) := by
    by_cases hk : k = 0
    · right
      exact ⟨by simp [hk], by simp; omega⟩
    · left; simpa using hk
  have hcat := bytes_cat b N
  have hown0 := fun (W : World) (hB : w.heap.size ≤ W.heap.size) => World.ownsRow_lit (base := w.heap.size) (e := 9) (size := 1) W #[.string (({ data := b.toArray } : ByteArray) ++ ({ data := N.toArray } : ByteArray))] 1 hB (by unfold maxLen; omega) rfl
  have HCAT := Lib.hid hcat
  have HOWN := Lib.hid hown0
  clear hshow hl hl1 hS hS1 hr hN hlen hno hm hcat hown0
  rcases htest with htest | ⟨htest, htest2⟩
  all_goals (
    go_enter Try.func34, Try.ntmps34
    go_wp2_with fail
    refine HF.out.mono ?_
    rintro e w1 ⟨rfl, rfl⟩
    have x0 := cell_of_row _ _ 0 _ _ _ hx0
    have x1 := cell_of_row _ _ 1 _ _ _ hx0
    have x2 := cell_of_row _ _ 2 _ _ _ hx0
    have x3 := cell_of_row _ _ 3 _ _ _ hx0
    simp only [List.getElem?_toArray, List.getElem?_cons_succ, List.getElem?_cons_zero] at x0 x1 x2 x3
    clear hx0
    go_wp2_with fail
    refine (HSH.out _ hb1).mono ?_
    rintro e w2 ⟨rfl, hb3⟩
    have hb4 := hb1.trans (hb3.mono hb1.size)
    have ho := HOWN.out w2 hb4.size
    clear x0 x1 x2 x3 HOWN
    go_wp2
    go_ret
    refine ⟨_, _, rfl, ?_, hb4.alloc hb4.size _⟩
    rw [List.map_cons, List.map_nil, show strL [b ++ N] = [.string ⟨(b ++ N).toArray⟩] from rfl, ← HCAT.out]
    exact ho)

theorem news_front {w : World} {base g cap : Nat} {e : TypeId} {Y : List (List UInt8)} {y : List UInt8} {n : Nat} (h : w.ownsRow base e 1 (.slice (some ⟨g, 0, none⟩) n cap) n (strL (Y ++ [y]))) : ∀ j u, (strL Y)[j]? = some u → w.cell? ((⟨g, 0, none⟩ : Addr).add j) = some u := by
  intro j u hj
  refine h.cells (g := g) rfl j u ?_
  rw [strL_app, List.getElem?_append_left]
  · exact hj
  · exact (List.getElem?_eq_some_iff.1 hj).1
/-- What stands at the loop's head. -/
def RLInv (k p : Int) (t b : List UInt8) (A : Option Addr) (l : List Tr) (c : Nat) (w : World) (m j : Nat) (Ar : Option Addr) (cr : Nat) (wr : World) : Prop :=
  Boxed k p t A l c w wr ∧ wr.ownsRow (w.heap.size + 1) 9 1 (.slice Ar (rlTo b l m j).length cr) (rlTo b l m j).length (strL (rlTo b l m j))
theorem Boxed.below {k p : Int} {t : List UInt8} {A : Option Addr} {l : List Tr} {c : Nat} {w W W' : World} (h : Boxed k p t A l c w W) (hb : Below W.heap.size W W') : Boxed k p t A l c w W' :=
  ⟨h.1.below hb h.1.lt, h.2.trans (hb.mono h.2.size)⟩
theorem Boxed.grown {k p : Int} {t : List UInt8} {A : Option Addr} {l : List Tr} {c : Nat} {w W W' : World} (h : Boxed k p t A l c w W) {v : Value} {e : TypeId} {n : Nat} {xs : List Value} (ho : W.ownsRow (w.heap.size + 1) e 1 v n xs) (hg : W.grownBy W' v.ownBlock) : Boxed k p t A l c w W' :=
  ⟨(hg.block w.heap.size h.1.lt (fun e => by have := (ho.lt _ e.symm).1; omega)).trans h.1, h.2.trans ((below_own ho hg (by have := h.1.lt; omega)).mono (by omega))⟩

set_option maxHeartbeats 8000000 in
set_option maxRecDepth 100000 in
theorem refLines_any : ∀ (f : Nat) (l : List Tr), Tree.counts l < f → ∀ (k p : Int) (t b : List UInt8) (A : Option Addr) (c : Nat) (S : Nat → Prop) (w : World), Lies w S A l → (∀ g, S g → g < w.heap.size) → (Tree.show1 (.mk k p t l)).length ≤ 1000000000 → Tree.counts l ≤ 1000000 → (k = 0 → (Tree.shows l).length ≤ 1000000000) → b.length + 2 * Tree.counts l ≤ 50000000 → l.length ≤ c → c ≤ maxLen →
    Calls Try.prog 34 #[.agg #[.int .i64 k, .int .i64 p, .string ⟨t.toArray⟩, .slice A l.length c], .string ⟨b.toArray⟩] w (RetRLines (.mk k p t l) b w) := by
  intro f
  induction f with
  | zero => intro l h; omega
  | succ f ih =>
    intro l hf k p t b A c S w hl hS hlen hct hsl hbl hcap hcm
    by_cases hno : k = 0 ∧ Tree.firstL l < l.length
    rotate_left
    · exact refLines_one k p t b l A c S w hl hS hlen hct hsl (by omega) hno
    have hr := rlTo_all b k p t l hno
    have hst := rlTo_start b l (Tree.firstL l)
    have hll := Tree.len_le_counts l
    obtain ⟨rfl, hfl⟩ := hno
    replace hsl := hsl rfl
    obtain ⟨g, o, rfl, hg, -⟩ := hl.get 0 (by omega)
    have hB1 : Boxed 0 p t (some ⟨g, o, none⟩) l c w (w.alloc (.cells #[.int .i64 0, .int .i64 p, .string ⟨t.toArray⟩, .slice (some ⟨g, o, none⟩) l.length c] 43)) := ⟨Var.new _ _ _, (Below.refl _ _).alloc (Nat.le_refl _) _⟩
    have hl1 := hl.keep (fun g hg => hB1.2.block g (hS g hg)) (fun _ h => h)
    have HF := Lib.hid (lists_any l _ c S _ hl1 (fun g hg => Nat.lt_of_lt_of_le (hS g hg) hB1.2.size) (by omega))
    obtain ⟨m, hm⟩ : ∃ m, Tree.firstL l = m := ⟨_, rfl⟩
    rw [hm] at HF hr hst hfl
    have hms := Tree.shows_take_len l m
    have hmc := Tree.counts_take_le l m
    have hmlen : (l.take m).length = m := by rw [List.length_take]; omega
    have hshow := fun (W : World) (hb : Below w.heap.size w W) => refShows_any _ (l.take m) (Nat.lt_succ_self _) (by omega) (by omega) (some ⟨g, o, none⟩) c S W ((hl.keep (fun g hg => hb.block g (hS g hg)) (fun _ h => h)).take m) (fun g hg => Nat.lt_of_lt_of_le (hS g hg) hb.size)
    rw [hmlen] at hshow
    obtain ⟨N, hN⟩ : ∃ N, Tree.shows (l.take m) = N := ⟨_, rfl⟩
    rw [hN] at hshow hst hms
    have hNl : N.length ≤ 1000000000 := by omega
    have HSH := Lib.hid hshow
    have HR := Lib.hid hr
    have HST := Lib.hid hst
    have HL := Lib.hid hl
    have HB1 := Lib.hid hB1
    have x0 := hB1.1.cells 0
    have x3 := hB1.1.cells 3
    simp only [List.getElem?_toArray, List.getElem?_cons_succ, List.getElem?_cons_zero] at x0 x3
    have gm : ((m : Int) == (l.length : Int)) = false := by simp; omega
    have gm0 : (0 : Int) ≤ (m : Int) := Int.natCast_nonneg _
    have gm1 : (m : Int) ≤ (l.length : Int) := by omega
    have gm2 : (m : Int) ≤ (c : Int) := by omega
    have hcm' : (c : Int) ≤ 9223372036854775807 := by unfold maxLen at hcm; omega
    clear hshow hl hl1 hr hst hm hN hms hmc hmlen hB1
    go_enter Try.func34, Try.ntmps34
    go_wp2_with fail
    refine HF.out.mono ?_
    rintro e w1 ⟨rfl, rfl⟩
    clear HF
    go_wp2_with fail
    refine (HSH.out _ HB1.out.2).mono ?_
    rintro e w2 ⟨rfl, hb3⟩
    have hB2 := HB1.out.below hb3
    have hown0 := World.ownsRow_lit (base := w.heap.size + 1) (e := 9) (size := 1) w2 #[.string ((({ data := b.toArray } : ByteArray) ++ ({ data := #[40] } : ByteArray)) ++ ({ data := N.toArray } : ByteArray))] 1 (by have := hB2.1.lt; omega) (by unfold maxLen; omega) rfl
    have hinv : RLInv 0 p t b (some ⟨g, o, none⟩) l c w m m (some ⟨w2.heap.size, 0, none⟩) 1 (w2.alloc (.cells #[.string ((({ data := b.toArray } : ByteArray) ++ ({ data := #[40] } : ByteArray)) ++ ({ data := N.toArray } : ByteArray))] 9)) := by
      refine ⟨hB2.below ((Below.refl _ _).alloc (Nat.le_refl _) _), ?_⟩
      have e : (({ data := b.toArray } : ByteArray) ++ ({ data := #[40] } : ByteArray)) ++ ({ data := N.toArray } : ByteArray) = ⟨(b ++ 40 :: N).toArray⟩ := by
        rw [show ({ data := #[40] } : ByteArray) = ⟨[40].toArray⟩ from rfl, bytes_cat, bytes_cat]; simp
      rw [e] at hown0 ⊢
      rw [HST.out]
      exact hown0
    have y3 := hB2.1.cells 3
    simp only [List.getElem?_toArray, List.getElem?_cons_succ, List.getElem?_cons_zero] at y3
    have HI := Lib.hid hinv
    clear x0 x3 hown0 hinv hb3 hB2 HB1
    go_wp2_with fail
    go_loopw [6, 7] (fun a i wr => ∃ (j : Nat) (Ar : Option Addr) (cr : Nat), m ≤ j ∧ j ≤ l.length ∧ a = .slice Ar (rlTo b l m j).length cr ∧ i = .int .i64 (j : Int) ∧ RLInv 0 p t b (some ⟨g, o, none⟩) l c w m j Ar cr wr) (fun _ i _ => l.length - (intOf i).toNat)
    case atStart => exact ⟨m, _, _, Nat.le_refl _, by omega, by rw [HST.out]; rfl, rfl, HI.out⟩
    case round =>
      clear HI y3
      obtain ⟨j, Ar, cr, hmj, hjl, rfl, rfl, hbox, hown⟩ := hrel
      have y3 := hbox.1.cells 3
      simp only [List.getElem?_toArray, List.getElem?_cons_succ, List.getElem?_cons_zero] at y3
      have hb := hbox.2
      by_cases hj : j < l.length
      · obtain ⟨g', o', hA, hg', c0, c1, c2, A', c', c3, hl', hcc, hccm⟩ := HL.out.get j hj
        injection hA with hA
        injection hA with e1 e2
        subst e1 e2
        have hsz := hb.size
        have hgl := hS _ hg
        have d0 := (hb.cell (p := ⟨g, o + j * 4, none⟩) hgl).trans c0
        have d1 := (hb.cell (p := ⟨g, o + j * 4 + 1, none⟩) hgl).trans c1
        have d2 := (hb.cell (p := ⟨g, o + j * 4 + 2, none⟩) hgl).trans c2
        have d3 := (hb.cell (p := ⟨g, o + j * 4 + 3, none⟩) hgl).trans c3
        have hi0 : (0 : Int) ≤ (j : Int) := Int.natCast_nonneg _
        have hi1 : (j : Int) < (l.length : Int) := by omega
        have hstep := rlTo_step b l m j hmj hj
        have hlenj := Tree.rowsTo_len l m j hmj (by omega)
        have hlenj1 := Tree.rowsTo_len l m (j + 1) (by omega) (by omega)
        have hN0 := Tree.show1_len l j hj
        have hct2 := Tree.counts_take l j hj
        have hct3 := Tree.counts_take_le l (j + 1)
        rw [← rlTo_len b] at hlenj hlenj1
        obtain ⟨x, hx⟩ : ∃ x, l[j] = x := ⟨_, rfl⟩
        rw [hx] at d0 d1 d2 d3 hl' hcc hstep hN0 hct2
        clear c0 c1 c2 c3 hx
        obtain ⟨mk, mp, mt, ml⟩ := x
        dsimp only [Tree.Tr.kind, Tree.Tr.pos, Tree.Tr.text, Tree.Tr.l] at d0 d1 d2 d3 hl' hcc
        have hcx : Tree.count (.mk mk mp mt ml) = 1 + Tree.counts ml := by rw [Tree.count]
        rw [hcx] at hct2
        have hshm : mk = 0 → (Tree.shows ml).length ≤ 1000000000 := by
          rintro rfl
          rw [Tree.show1, if_neg (by decide), if_neg (by decide), if_pos rfl] at hN0
          simp only [List.length_append, List.length_singleton] at hN0
          omega
        have hcall := ih ml (by omega) mk mp mt (b ++ [32, 32]) A' c' S wr (hl'.keep (fun g hg => hb.block g (hS g hg)) (fun _ h => h)) (fun g hg => Nat.lt_of_lt_of_le (hS g hg) hb.size) (by omega) (by omega) hshm (by simp; omega) hcc hccm
        have hcat : ({ data := b.toArray } : ByteArray) ++ ({ data := #[32, 32] } : ByteArray) = ⟨(b ++ [32, 32]).toArray⟩ := bytes_cat b [32, 32]
        rw [← hcat] at hcall
        obtain ⟨R, hR⟩ : ∃ R, (Tree.rows (.mk mk mp mt ml)).map ((b ++ [32, 32]) ++ ·) = R := ⟨_, rfl⟩
        have hRl : (Tree.rows (.mk mk mp mt ml)).length = R.length := by rw [← hR, List.length_map]
        unfold RetRLines at hcall
        rw [hR, hRl] at hcall
        rw [hR] at hstep
        obtain ⟨T, hT⟩ : ∃ T, rlTo b l m j = T := ⟨_, rfl⟩
        rw [hT] at hown hstep hlenj ⊢
        have hTR : (rlTo b l m (j + 1)).length = T.length + R.length := by rw [hstep, List.length_append]
        have HC := Lib.hid hcall
        have HT := Lib.hid hstep
        have HTR := Lib.hid hTR
        have HTT := Lib.hid hT
        have hRT : T.length + R.length ≤ 1 + Tree.counts l := by omega
        have hbl2 : b.length ≤ 50000000 := by omega
        have hbox0 := Lib.hid hbox
        obtain ⟨ii, ti0, hz0, hz1, hz2⟩ := info_parts info_strs
        clear hcall hstep hl' hlenj hlenj1 hN0 hct2 hct3 hR hRl hT hcx hcat hTR hbox
        go_wp2_with fail
        refine HC.out.mono ?_
        rintro e w5 ⟨A5, c5, rfl, hown5, hb6⟩
        have ho2 := own_below hown hb6 (Nat.le_refl _)
        have hbox5 := hbox0.out.below hb6
        have hs5 := hb6.size
        have hl5 := hbox5.1.lt
        have hr5 := Reads.of_own hown5
        clear hown hown5 hbox0 HC y3 d0 d1 d2 d3
        go_wp2_with (at_builtin; (refine wpList_append_any _ rfl (.tmp 44) (.tmp 52) 66 rfl (w.heap.size + 1) 9 ii _ 1 16 Try.underlying66 ti0 hz0 hz1 hz2 rfl (by omega) _ T.length (strL T) rfl ho2 _ A5 R.length c5 (strL R) rfl hr5 strL_one (by unfold maxLen; omega) (by omega) (by omega) ?_); intro v6 w6 ho6 hg6 hv6)
        have hbox6 := hbox5.grown ho2 hg6
        obtain ⟨A6, c6, rfl, hc6, hm6⟩ := own_slice ho6
        rw [← strL_app, ← HT.out] at ho6
        have hfin : RLInv 0 p t b (some ⟨g, o, none⟩) l c w m (j + 1) A6 c6 w6 := ⟨hbox6, by rw [HTR.out]; exact ho6⟩
        clear ho2 ho6 hg6 hv6 hbox5 hbox6 hr5
        go_wp2
        go_roundw
        case rel => exact ⟨j + 1, A6, c6, by omega, by omega, by rw [HTR.out], by go_num, hfin⟩
        case measure => simp [intOf]; omega
      · obtain rfl : j = l.length := by omega
        have hRr := HR.out
        obtain ⟨T, hT⟩ : ∃ T, rlTo b l m l.length = T := ⟨_, rfl⟩
        have hTl : T.length = (rowsTo l m l.length).length := by rw [← hT, rlTo_len]
        have hTn := Tree.rowsTo_len l m l.length (by omega) (Nat.le_refl _)
        have hTlow : 2 ≤ T.length := by
          rw [hTl]; unfold rowsTo
          have hd : l.take l.length = l := List.take_length
          have hne : (l.drop m).flatMap (fun n => (Tree.rows n).map ([32, 32] ++ ·)) ≠ [] := by
            rw [List.drop_eq_getElem_cons hfl, List.flatMap_cons]
            intro e
            have := List.append_eq_nil_iff.1 e
            exact Tree.rows_ne _ (by simpa using this.1)
          rw [hd, List.length_cons]
          have := List.length_pos_iff.2 hne
          omega
        have hrl : (Tree.rows (.mk 0 p t l)).length = T.length := by
          have := congrArg List.length hRr
          rw [List.length_map, hT, Tree.shut_length _ (by intro e; rw [e] at hTlow; simp at hTlow)] at this
          exact this
        rw [hT] at hRr hown ⊢
        have hTne : T ≠ [] := by intro e; rw [e] at hTlow; simp at hTlow
        obtain ⟨Y, y, rfl⟩ : ∃ Y y, T = Y ++ [y] := ⟨T.dropLast, T.getLast hTne, (List.dropLast_concat_getLast hTne).symm⟩
        have hsh : Tree.shut (Y ++ [y]) = Y ++ [y ++ [41]] := by unfold Tree.shut; simp [List.getLastD_eq_getLast?]
        rw [hsh] at hRr
        have hyl : y.length ≤ 1200000000 := by
          have h1 : y ++ [41] ∈ (Tree.rows (.mk 0 p t l)).map (b ++ ·) := by rw [hRr]; simp
          obtain ⟨z, hz, hzz⟩ := List.mem_map.1 h1
          have h2 := Tree.rows_line (.mk 0 p t l) z hz
          have h3 := congrArg List.length hzz
          rw [Tree.count] at h2
          simp only [List.length_append, List.length_singleton] at h3
          omega
        have hlen1 : (Y ++ [y]).length = Y.length + 1 := by simp
        rw [hlen1] at hown hTlow hrl hTl ⊢
        have hYl : Y.length ≤ 1000001 := by omega
        have hY1 : 0 < Y.length := by omega
        obtain ⟨g6, cap6, hv, hg6b, hg6⟩ := hown.form (by omega)
        have hcap6 := own_cap hown
        injection hv with hA _ hc
        subst hA hc
        have e6 := hown.cellAt Y.length (by omega)
        rw [show (strL (Y ++ [y]))[Y.length]? = some (.string ⟨y.toArray⟩) from by simp [strL]] at e6
        have hcat2 : ({ data := y.toArray } : ByteArray) ++ ({ data := #[41] } : ByteArray) = ⟨(y ++ [41]).toArray⟩ := bytes_cat y [41]
        have HCAT2 := Lib.hid hcat2
        have HRR := Lib.hid hRr
        have HRL := Lib.hid hrl
        have hi0 : (0 : Int) ≤ (Y.length : Int) := Int.natCast_nonneg _
        have hi1 : (Y.length : Int) < (Y.length : Int) + 1 := by omega
        have hi2 : (Y.length : Int) ≤ (cr : Int) := by omega
        have hcr : (cr : Int) ≤ 9223372036854775807 := by have := hcap6.2; unfold maxLen at this; omega
        have hbx := hbox.1.lt
        obtain ⟨ii, ti0, hz0, hz1, hz2⟩ := info_parts info_strs
        clear hRr hsh hT hTl hTn hTne hrl hcat2 hbox
        go_wp2_with fail
        refine wp_region_held_drew (S := fun w' => w'.cell? ⟨g6, Y.length, none⟩ = some (.string ⟨y.toArray⟩)) (by kernel_rfl) ?_ (fun hHeld0 => ?_)
        · first | assumption | go_keep
        obtain ⟨w0, hw0⟩ : ∃ w0, wr.drew = w0 := ⟨_, rfl⟩
        have how0 : w0.ownsRow (w.heap.size + 1) 9 1 (.slice (some ⟨g6, 0, none⟩) (Y.length + 1) cr) (Y.length + 1) (strL (Y ++ [y])) := hw0 ▸ hown.drew
        have bw0 : Below w.heap.size w w0 := hw0 ▸ hb.drew
        have hsw0 : w0.heap.size = wr.heap.size := by rw [← hw0]; rfl
        have hw0l : w.heap.size + 1 ≤ w0.heap.size := by omega
        have hg60 : g6 < w0.heap.size := by omega
        have HE : Hid (∀ W : World, w.heap.size + 1 ≤ W.heap.size → (W.alloc (.cells #[] 9)).ownsRow (w.heap.size + 1) 9 1 (.slice (some ⟨W.heap.size, 0, none⟩) 0 0) 0 []) := fun W hW => World.ownsRow_lit W #[] 0 hW (Nat.zero_le _) rfl
        rw [hw0] at hHeld0 ⊢
        clear hown hb e6 hsw0 hw0
        refine wpAnyH_take (i := 1) (oi := { dst := some 58, op := Go.Op.move (Go.Operand.tmp 6), type := 66, pos := "ref.go:122", after := #[], guard := none }) (v := ?v_1_1_1) rfl (by kernel_rfl) (by kernel_rfl) (by kernel_rfl) (fun _ _ _ h => h) (Or.inl ⟨by rfl, ?hy_1_1_1⟩) (by assumption) ?rest_1_1_1
        case hy_1_1_1 => (intro w hSw; (try dsimp only at hSw); go_simp; (try (with_reducible rfl)))
        (try simp only [Act.put, List.setIfInBounds_toArray, List.set_cons_succ, List.set_cons_zero])
        refine wpAnyH_take (i := 2) (oi := { dst := some 59, op := Go.Op.move (Go.Operand.tmp 8), type := 3, pos := "ref.go:122", after := #[], guard := none }) (v := ?v_1_2_2) rfl (by kernel_rfl) (by kernel_rfl) (by kernel_rfl) (fun _ _ _ h => h) (Or.inl ⟨by rfl, ?hy_1_2_2⟩) (by assumption) ?rest_1_2_2
        case hy_1_2_2 => (intro w hSw; (try dsimp only at hSw); go_simp; (try (with_reducible rfl)))
        (try simp only [Act.put, List.setIfInBounds_toArray, List.set_cons_succ, List.set_cons_zero])
        refine wpAnyH_take (i := 3) (oi := { dst := some 60, op := Go.Op.slice 66 (Go.Operand.tmp 58) none (some (Go.Operand.tmp 59)) none, type := 66, pos := "ref.go:122", after := #[{ on := 1, ground := Go.Ground.data }, { on := 2, ground := Go.Ground.data }], guard := none }) (v := (.slice (some ⟨g6, 0, none⟩) Y.length cr)) rfl (by kernel_rfl) (by kernel_rfl) (by kernel_rfl) (fun _ _ _ h => h) (Or.inl ⟨by rfl, ?hy_1_3_3⟩) (by assumption) ?rest_1_3_3
        case hy_1_3_3 => (intro w hSw; (try dsimp only at hSw); go_simp; done)
        (try simp only [Act.put, List.setIfInBounds_toArray, List.set_cons_succ, List.set_cons_zero])
        refine wpAnyH_take (i := 5) (oi := { dst := some 62, op := Go.Op.move (Go.Operand.tmp 6), type := 66, pos := "ref.go:122", after := #[], guard := none }) (v := ?v_1_4_5) rfl (by kernel_rfl) (by kernel_rfl) (by kernel_rfl) (fun _ _ _ h => h) (Or.inl ⟨by rfl, ?hy_1_4_5⟩) (by assumption) ?rest_1_4_5
        case hy_1_4_5 => (intro w hSw; (try dsimp only at hSw); go_simp; (try (with_reducible rfl)))
        (try simp only [Act.put, List.setIfInBounds_toArray, List.set_cons_succ, List.set_cons_zero])
        refine wpAnyH_take (i := 6) (oi := { dst := some 63, op := Go.Op.move (Go.Operand.tmp 8), type := 3, pos := "ref.go:122", after := #[], guard := none }) (v := ?v_1_5_6) rfl (by kernel_rfl) (by kernel_rfl) (by kernel_rfl) (fun _ _ _ h => h) (Or.inl ⟨by rfl, ?hy_1_5_6⟩) (by assumption) ?rest_1_5_6
        case hy_1_5_6 => (intro w hSw; (try dsimp only at hSw); go_simp; (try (with_reducible rfl)))
        (try simp only [Act.put, List.setIfInBounds_toArray, List.set_cons_succ, List.set_cons_zero])
        refine wpAnyH_take (i := 7) (oi := { dst := some 64, op := Go.Op.indexAddr 66 (Go.Operand.tmp 62) (Go.Operand.tmp 63), type := 0, pos := "ref.go:122", after := #[{ on := 5, ground := Go.Ground.data }, { on := 6, ground := Go.Ground.data }], guard := none }) (v := ?v_1_6_7) rfl (by kernel_rfl) (by kernel_rfl) (by kernel_rfl) (fun _ _ _ h => h) (Or.inl ⟨by rfl, ?hy_1_6_7⟩) (by assumption) ?rest_1_6_7
        case hy_1_6_7 => (intro w hSw; (try dsimp only at hSw); go_simp; (try (with_reducible rfl)))
        (try simp only [Act.put, List.setIfInBounds_toArray, List.set_cons_succ, List.set_cons_zero])
        refine wpAnyH_take (i := 8) (oi := { dst := some 65, op := Go.Op.load 9 (Go.Operand.tmp 64), type := 9, pos := "ref.go:122", after := #[{ on := 7, ground := Go.Ground.data }], guard := none }) (v := ?v_1_7_8) rfl (by kernel_rfl) (by kernel_rfl) (by kernel_rfl) (fun _ _ _ h => h) (Or.inl ⟨by rfl, ?hy_1_7_8⟩) (by assumption) ?rest_1_7_8
        case hy_1_7_8 => (intro w hSw; (try dsimp only at hSw); go_simp; (try (with_reducible rfl)))
        (try simp only [Act.put, List.setIfInBounds_toArray, List.set_cons_succ, List.set_cons_zero])
        refine wpAnyH_take (i := 9) (oi := { dst := some 66, op := Go.Op.binOp Go.BinOp.add 9 (Go.Operand.tmp 65) (Go.Operand.const (Go.Value.string { data := #[41] })) 9, type := 9, pos := "ref.go:122", after := #[{ on := 8, ground := Go.Ground.data }], guard := none }) (v := (.string (({ data := y.toArray } : ByteArray) ++ ({ data := #[41] } : ByteArray)))) rfl (by kernel_rfl) (by kernel_rfl) (by kernel_rfl) (fun _ _ _ h => h) (Or.inl ⟨by rfl, ?hy_1_8_9⟩) (by assumption) ?rest_1_8_9
        case hy_1_8_9 => (intro w hSw; (try dsimp only at hSw); go_simp; omega)
        (try simp only [Act.put, List.setIfInBounds_toArray, List.set_cons_succ, List.set_cons_zero])
        refine wpAnyH_ready (rs := [0, 10]) (by kernel_rfl) (by simp) ?_
        refine (AllReadyH.cons (o := { dst := some 57, op := Go.Op.buildSlice 66 0 #[], type := 66, pos := "ref.go:122", after := #[], guard := none }) rfl (fun K hK => ?_) (AllReadyH.cons (o := { dst := some 67, op := Go.Op.buildSlice 66 1 #[(0, Go.Operand.tmp 66)], type := 66, pos := "ref.go:122", after := #[{ on := 9, ground := Go.Ground.data }], guard := none }) rfl (fun K hK => ?_) AllReadyH.nil))
        · skip
          go_simp
          skip
          (try dsimp only)
          refine hK.out _ _ ?_ (fun hHeld1 => ?_)
          · first | trivial | ((try dsimp only); first | assumption | trivial | go_keep)
          clear hK K hHeld0
          (try simp only [Act.put, List.setIfInBounds_toArray, List.set_cons_succ, List.set_cons_zero])
          refine wpAnyH_ready (rs := [4, 10]) (by kernel_rfl) (by simp) ?_
          refine (AllReadyH.cons (o := { dst := some 61, op := Go.Op.call { callee := Go.Callee.builtin Go.Builtin.append, args := #[Go.Operand.tmp 57, Go.Operand.tmp 60], argTypes := #[66, 66] }, type := 66, pos := "ref.go:122", after := #[{ on := 0, ground := Go.Ground.data }, { on := 3, ground := Go.Ground.data }], guard := none }) rfl (fun K hK => ?_) (AllReadyH.cons (o := { dst := some 67, op := Go.Op.buildSlice 66 1 #[(0, Go.Operand.tmp 66)], type := 66, pos := "ref.go:122", after := #[{ on := 9, ground := Go.Ground.data }], guard := none }) rfl (fun K hK => ?_) AllReadyH.nil))
          · skip
            (refine step_append_lies (w0.alloc (.cells #[] 9)) (by rfl) (.tmp 57) (.tmp 60) 66 (by rfl) (w.heap.size + 1) 9 ii _ 1 16 Try.underlying66 ti0 hz0 hz1 hz2 rfl (by omega) (.slice (some ⟨w0.heap.size, 0, none⟩) 0 0) 0 [] (by rfl) (HE.out w0 hw0l) ⟨g6, 0, none⟩ Y.length cr (strL Y) (by rfl) (by rw [strL_len, Nat.mul_one]) (news_front (how0.alloc _)) strL_one hY1 (by unfold maxLen; omega) (by omega) (by simp; omega) (w0.heap.size + 1) (by simp) ?_; intro g4 cap4 w4 ho4 hg4 hat4 hlt4; (try simp only [Nat.zero_add, List.nil_append] at ho4 ⊢); have hne4 : g6 ≠ g4 := (by rcases hat4 with h | h; (simp [Value.ownBlock] at h; omega); (have := h; omega)); have e4 : w4.cell? ⟨g6, Y.length, none⟩ = some (.string ⟨y.toArray⟩) := (hg4.cell_far ⟨g6, Y.length, none⟩ (by simp; omega) (by simp [Value.ownBlock]; omega)).trans ((how0.alloc _).cellAt Y.length (by omega) |>.trans (by simp [strL])))
            (try dsimp only)
            refine hK.out _ _ ?_ (fun hHeld2 => ?_)
            · first | trivial | ((try dsimp only); first | assumption | trivial | go_keep)
            clear hK K hHeld1
            (try simp only [Act.put, List.setIfInBounds_toArray, List.set_cons_succ, List.set_cons_zero])
            refine wpAnyH_ready (rs := [10]) (by kernel_rfl) (by simp) ?_
            refine (AllReadyH.cons (o := { dst := some 67, op := Go.Op.buildSlice 66 1 #[(0, Go.Operand.tmp 66)], type := 66, pos := "ref.go:122", after := #[{ on := 9, ground := Go.Ground.data }], guard := none }) rfl (fun K hK => ?_) AllReadyH.nil)
            go_simp
            skip
            (try dsimp only)
            refine hK.out _ _ ?_ (fun hHeld3 => ?_)
            · first | trivial | ((try dsimp only); first | assumption | trivial | go_keep)
            clear hK K hHeld2
            (try simp only [Act.put, List.setIfInBounds_toArray, List.set_cons_succ, List.set_cons_zero])
            refine wpAnyH_ready (rs := [11]) (by kernel_rfl) (by simp) ?_
            refine (AllReadyH.cons (o := { dst := some 68, op := Go.Op.call { callee := Go.Callee.builtin Go.Builtin.append, args := #[Go.Operand.tmp 61, Go.Operand.tmp 67], argTypes := #[66, 66] }, type := 66, pos := "ref.go:122", after := #[{ on := 4, ground := Go.Ground.data }, { on := 10, ground := Go.Ground.data }, { on := 4, ground := Go.Ground.chain }], guard := none }) rfl (fun K hK => ?_) AllReadyH.nil)
            (refine step_append_lies (w4.alloc (.cells #[.string (({ data := y.toArray } : ByteArray) ++ ({ data := #[41] } : ByteArray))] 9)) (by rfl) (.tmp 61) (.tmp 67) 66 (by rfl) (w.heap.size + 1) 9 ii _ 1 16 Try.underlying66 ti0 hz0 hz1 hz2 rfl (by omega) (.slice (some ⟨g4, 0, none⟩) Y.length cap4) Y.length (strL Y) (by rfl) (ho4.alloc _) ⟨w4.heap.size, 0, none⟩ 1 1 [.string (({ data := y.toArray } : ByteArray) ++ ({ data := #[41] } : ByteArray))] (by rfl) (by rfl) (World.news_of_block (cs := #[.string (({ data := y.toArray } : ByteArray) ++ ({ data := #[41] } : ByteArray))]) (t := 9) (fr := (0, 0)) (heap_alloc_new w4 _)) (by simp [Value.oneCell']) (by omega) (by unfold maxLen; omega) (by omega) (by have := hg4.size; simp at this; simp; omega) (w4.heap.size + 1) (by simp) ?_; intro g5 cap5 w5 ho5 hg5 hat5 hlt5; have e5 : w5.cell? ⟨g6, Y.length, none⟩ = some (.string ⟨y.toArray⟩) := (hg5.cell_far ⟨g6, Y.length, none⟩ (by have := hg4.size; simp at this; simp; omega) (by simp [Value.ownBlock]; omega)).trans ((World.cell?_alloc_lt w4 _ ⟨g6, Y.length, none⟩ (by have := hg4.size; simp at this; show g6 < _; omega)).trans e4))
            (try dsimp only)
            refine hK.out _ _ ?_ (fun hHeld4 => ?_)
            · first | trivial | ((try dsimp only); first | assumption | trivial | go_keep)
            clear hK K hHeld3
            (try simp only [Act.put, List.setIfInBounds_toArray, List.set_cons_succ, List.set_cons_zero])
            refine wpAnyH_take (i := 12) (oi := { dst := some 4, op := Go.Op.assign (Go.Operand.tmp 68), type := 66, pos := "ref.go:122", after := #[{ on := 11, ground := Go.Ground.data }, { on := 11, ground := Go.Ground.chain }, { on := 0, ground := Go.Ground.phase }, { on := 1, ground := Go.Ground.phase }, { on := 2, ground := Go.Ground.phase }, { on := 3, ground := Go.Ground.phase }, { on := 4, ground := Go.Ground.phase }, { on := 5, ground := Go.Ground.phase }, { on := 6, ground := Go.Ground.phase }, { on := 7, ground := Go.Ground.phase }, { on := 8, ground := Go.Ground.phase }, { on := 9, ground := Go.Ground.phase }, { on := 10, ground := Go.Ground.phase }, { on := 11, ground := Go.Ground.phase }], guard := none }) (v := ?v_1_9_12) rfl (by kernel_rfl) (by kernel_rfl) (by kernel_rfl) (fun _ _ _ h => h) (Or.inl ⟨by rfl, ?hy_1_9_12⟩) (by assumption) ?rest_1_9_12
            case hy_1_9_12 => (intro w hSw; (try dsimp only at hSw); go_simp; (try (with_reducible rfl)))
            (try simp only [Act.put, List.setIfInBounds_toArray, List.set_cons_succ, List.set_cons_zero])
            refine wpAnyH_done (by kernel_rfl) ?_ _
            have bfin : Below w.heap.size w w5 := ((((bw0.alloc (by omega) _).trans ((below_own (HE.out w0 hw0l) hg4 (by simp; omega)).mono (Nat.le_succ _))).alloc (by have := hg4.size; simp at this; omega) _).trans ((below_own (ho4.alloc _) hg5 (by have := hg4.size; simp at this; simp; omega)).mono (Nat.le_succ _)))
            clear e4 e5 hg4 hg5 hat4 hat5 hHeld4
            rw [HCAT2.out] at ho5
            go_wp2
            go_ret
            refine ⟨some ⟨g5, 0, none⟩, cap5, by rw [HRL.out]; rfl, ?_, bfin⟩
            rw [HRL.out, HRR.out, strL_app]
            exact own_base ho5 (by omega)
          · skip
            go_simp
            skip
            (try dsimp only)
            refine hK.out _ _ ?_ (fun hHeld2 => ?_)
            · first | trivial | ((try dsimp only); first | assumption | trivial | go_keep)
            clear hK K hHeld1
            (try simp only [Act.put, List.setIfInBounds_toArray, List.set_cons_succ, List.set_cons_zero])
            refine wpAnyH_ready (rs := [4]) (by kernel_rfl) (by simp) ?_
            refine (AllReadyH.cons (o := { dst := some 61, op := Go.Op.call { callee := Go.Callee.builtin Go.Builtin.append, args := #[Go.Operand.tmp 57, Go.Operand.tmp 60], argTypes := #[66, 66] }, type := 66, pos := "ref.go:122", after := #[{ on := 0, ground := Go.Ground.data }, { on := 3, ground := Go.Ground.data }], guard := none }) rfl (fun K hK => ?_) AllReadyH.nil)
            (refine step_append_lies ((w0.alloc (.cells #[] 9)).alloc (.cells #[.string (({ data := y.toArray } : ByteArray) ++ ({ data := #[41] } : ByteArray))] 9)) (by rfl) (.tmp 57) (.tmp 60) 66 (by rfl) (w.heap.size + 1) 9 ii _ 1 16 Try.underlying66 ti0 hz0 hz1 hz2 rfl (by omega) (.slice (some ⟨w0.heap.size, 0, none⟩) 0 0) 0 [] (by rfl) ((HE.out w0 hw0l).alloc _) ⟨g6, 0, none⟩ Y.length cr (strL Y) (by rfl) (by rw [strL_len, Nat.mul_one]) (news_front ((how0.alloc _).alloc _)) strL_one hY1 (by unfold maxLen; omega) (by omega) (by simp; omega) (w0.heap.size + 1 + 1) (by simp) ?_; intro g4 cap4 w4 ho4 hg4 hat4 hlt4; (try simp only [Nat.zero_add, List.nil_append] at ho4 ⊢); have hne4 : g6 ≠ g4 := (by rcases hat4 with h | h; (simp [Value.ownBlock] at h; omega); (have := h; omega)); have e4 : w4.cell? ⟨g6, Y.length, none⟩ = some (.string ⟨y.toArray⟩) := (hg4.cell_far ⟨g6, Y.length, none⟩ (by simp; omega) (by simp [Value.ownBlock]; omega)).trans (((how0.alloc _).alloc _).cellAt Y.length (by omega) |>.trans (by simp [strL])))
            (try dsimp only)
            refine hK.out _ _ ?_ (fun hHeld3 => ?_)
            · first | trivial | ((try dsimp only); first | assumption | trivial | go_keep)
            clear hK K hHeld2
            (try simp only [Act.put, List.setIfInBounds_toArray, List.set_cons_succ, List.set_cons_zero])
            refine wpAnyH_ready (rs := [11]) (by kernel_rfl) (by simp) ?_
            refine (AllReadyH.cons (o := { dst := some 68, op := Go.Op.call { callee := Go.Callee.builtin Go.Builtin.append, args := #[Go.Operand.tmp 61, Go.Operand.tmp 67], argTypes := #[66, 66] }, type := 66, pos := "ref.go:122", after := #[{ on := 4, ground := Go.Ground.data }, { on := 10, ground := Go.Ground.data }, { on := 4, ground := Go.Ground.chain }], guard := none }) rfl (fun K hK => ?_) AllReadyH.nil)
            (refine step_append_lies w4 (by rfl) (.tmp 61) (.tmp 67) 66 (by rfl) (w.heap.size + 1) 9 ii _ 1 16 Try.underlying66 ti0 hz0 hz1 hz2 rfl (by omega) (.slice (some ⟨g4, 0, none⟩) Y.length cap4) Y.length (strL Y) (by rfl) ho4 ⟨(w0.heap.size + 1), 0, none⟩ 1 1 [.string (({ data := y.toArray } : ByteArray) ++ ({ data := #[41] } : ByteArray))] (by rfl) (by rfl) (World.news_of_block (cs := #[.string (({ data := y.toArray } : ByteArray) ++ ({ data := #[41] } : ByteArray))]) (t := 9) (fr := (0, 0)) ((hg4.block (w0.heap.size + 1) (by simp) (by simp [Value.ownBlock])).trans (by have := heap_alloc_new (w0.alloc (.cells #[] 9)) (.cells #[.string (({ data := y.toArray } : ByteArray) ++ ({ data := #[41] } : ByteArray))] 9); simpa using this))) (by simp [Value.oneCell']) (by omega) (by unfold maxLen; omega) (by omega) (by have := hg4.size; simp at this; simp; omega) (w4.heap.size) (by simp) ?_; intro g5 cap5 w5 ho5 hg5 hat5 hlt5; have e5 : w5.cell? ⟨g6, Y.length, none⟩ = some (.string ⟨y.toArray⟩) := (hg5.cell_far ⟨g6, Y.length, none⟩ (by have := hg4.size; simp at this; simp; omega) (by simp [Value.ownBlock]; omega)).trans e4)
            (try dsimp only)
            refine hK.out _ _ ?_ (fun hHeld4 => ?_)
            · first | trivial | ((try dsimp only); first | assumption | trivial | go_keep)
            clear hK K hHeld3
            (try simp only [Act.put, List.setIfInBounds_toArray, List.set_cons_succ, List.set_cons_zero])
            refine wpAnyH_take (i := 12) (oi := { dst := some 4, op := Go.Op.assign (Go.Operand.tmp 68), type := 66, pos := "ref.go:122", after := #[{ on := 11, ground := Go.Ground.data }, { on := 11, ground := Go.Ground.chain }, { on := 0, ground := Go.Ground.phase }, { on := 1, ground := Go.Ground.phase }, { on := 2, ground := Go.Ground.phase }, { on := 3, ground := Go.Ground.phase }, { on := 4, ground := Go.Ground.phase }, { on := 5, ground := Go.Ground.phase }, { on := 6, ground := Go.Ground.phase }, { on := 7, ground := Go.Ground.phase }, { on := 8, ground := Go.Ground.phase }, { on := 9, ground := Go.Ground.phase }, { on := 10, ground := Go.Ground.phase }, { on := 11, ground := Go.Ground.phase }], guard := none }) (v := ?v_1_10_12) rfl (by kernel_rfl) (by kernel_rfl) (by kernel_rfl) (fun _ _ _ h => h) (Or.inl ⟨by rfl, ?hy_1_10_12⟩) (by assumption) ?rest_1_10_12
            case hy_1_10_12 => (intro w hSw; (try dsimp only at hSw); go_simp; (try (with_reducible rfl)))
            (try simp only [Act.put, List.setIfInBounds_toArray, List.set_cons_succ, List.set_cons_zero])
            refine wpAnyH_done (by kernel_rfl) ?_ _
            have bfin : Below w.heap.size w w5 := ((((bw0.alloc (by omega) _).alloc (by simp; omega) _).trans ((below_own ((HE.out w0 hw0l).alloc _) hg4 (by simp; omega)).mono (Nat.le_succ _))).trans ((below_own ho4 hg5 (by have := hg4.size; simp at this; omega)).mono (Nat.le_succ _)))
            clear e4 e5 hg4 hg5 hat4 hat5 hHeld4
            rw [HCAT2.out] at ho5
            go_wp2
            go_ret
            refine ⟨some ⟨g5, 0, none⟩, cap5, by rw [HRL.out]; rfl, ?_, bfin⟩
            rw [HRL.out, HRR.out, strL_app]
            exact own_base ho5 (by omega)
        · skip
          go_simp
          skip
          (try dsimp only)
          refine hK.out _ _ ?_ (fun hHeld1 => ?_)
          · first | trivial | ((try dsimp only); first | assumption | trivial | go_keep)
          clear hK K hHeld0
          (try simp only [Act.put, List.setIfInBounds_toArray, List.set_cons_succ, List.set_cons_zero])
          refine wpAnyH_ready (rs := [0]) (by kernel_rfl) (by simp) ?_
          refine (AllReadyH.cons (o := { dst := some 57, op := Go.Op.buildSlice 66 0 #[], type := 66, pos := "ref.go:122", after := #[], guard := none }) rfl (fun K hK => ?_) AllReadyH.nil)
          go_simp
          skip
          (try dsimp only)
          refine hK.out _ _ ?_ (fun hHeld2 => ?_)
          · first | trivial | ((try dsimp only); first | assumption | trivial | go_keep)
          clear hK K hHeld1
          (try simp only [Act.put, List.setIfInBounds_toArray, List.set_cons_succ, List.set_cons_zero])
          refine wpAnyH_ready (rs := [4]) (by kernel_rfl) (by simp) ?_
          refine (AllReadyH.cons (o := { dst := some 61, op := Go.Op.call { callee := Go.Callee.builtin Go.Builtin.append, args := #[Go.Operand.tmp 57, Go.Operand.tmp 60], argTypes := #[66, 66] }, type := 66, pos := "ref.go:122", after := #[{ on := 0, ground := Go.Ground.data }, { on := 3, ground := Go.Ground.data }], guard := none }) rfl (fun K hK => ?_) AllReadyH.nil)
          (refine step_append_lies ((w0.alloc (.cells #[.string (({ data := y.toArray } : ByteArray) ++ ({ data := #[41] } : ByteArray))] 9)).alloc (.cells #[] 9)) (by rfl) (.tmp 57) (.tmp 60) 66 (by rfl) (w.heap.size + 1) 9 ii _ 1 16 Try.underlying66 ti0 hz0 hz1 hz2 rfl (by omega) (.slice (some ⟨(w0.heap.size + 1), 0, none⟩) 0 0) 0 [] (by rfl) (by have := HE.out (w0.alloc (.cells #[.string (({ data := y.toArray } : ByteArray) ++ ({ data := #[41] } : ByteArray))] 9)) (by simp; omega); simpa using this) ⟨g6, 0, none⟩ Y.length cr (strL Y) (by rfl) (by rw [strL_len, Nat.mul_one]) (news_front ((how0.alloc _).alloc _)) strL_one hY1 (by unfold maxLen; omega) (by omega) (by simp; omega) (w0.heap.size + 1 + 1) (by simp) ?_; intro g4 cap4 w4 ho4 hg4 hat4 hlt4; (try simp only [Nat.zero_add, List.nil_append] at ho4 ⊢); have hne4 : g6 ≠ g4 := (by rcases hat4 with h | h; (simp [Value.ownBlock] at h; omega); (have := h; omega)); have e4 : w4.cell? ⟨g6, Y.length, none⟩ = some (.string ⟨y.toArray⟩) := (hg4.cell_far ⟨g6, Y.length, none⟩ (by simp; omega) (by simp [Value.ownBlock]; omega)).trans (((how0.alloc _).alloc _).cellAt Y.length (by omega) |>.trans (by simp [strL])))
          (try dsimp only)
          refine hK.out _ _ ?_ (fun hHeld3 => ?_)
          · first | trivial | ((try dsimp only); first | assumption | trivial | go_keep)
          clear hK K hHeld2
          (try simp only [Act.put, List.setIfInBounds_toArray, List.set_cons_succ, List.set_cons_zero])
          refine wpAnyH_ready (rs := [11]) (by kernel_rfl) (by simp) ?_
          refine (AllReadyH.cons (o := { dst := some 68, op := Go.Op.call { callee := Go.Callee.builtin Go.Builtin.append, args := #[Go.Operand.tmp 61, Go.Operand.tmp 67], argTypes := #[66, 66] }, type := 66, pos := "ref.go:122", after := #[{ on := 4, ground := Go.Ground.data }, { on := 10, ground := Go.Ground.data }, { on := 4, ground := Go.Ground.chain }], guard := none }) rfl (fun K hK => ?_) AllReadyH.nil)
          (refine step_append_lies w4 (by rfl) (.tmp 61) (.tmp 67) 66 (by rfl) (w.heap.size + 1) 9 ii _ 1 16 Try.underlying66 ti0 hz0 hz1 hz2 rfl (by omega) (.slice (some ⟨g4, 0, none⟩) Y.length cap4) Y.length (strL Y) (by rfl) ho4 ⟨w0.heap.size, 0, none⟩ 1 1 [.string (({ data := y.toArray } : ByteArray) ++ ({ data := #[41] } : ByteArray))] (by rfl) (by rfl) (World.news_of_block (cs := #[.string (({ data := y.toArray } : ByteArray) ++ ({ data := #[41] } : ByteArray))]) (t := 9) (fr := (0, 0)) ((hg4.block w0.heap.size (by simp; omega) (by simp [Value.ownBlock])).trans ((Below.heap_alloc _ _ _ (by simp)).trans (heap_alloc_new w0 _)))) (by simp [Value.oneCell']) (by omega) (by unfold maxLen; omega) (by omega) (by have := hg4.size; simp at this; simp; omega) (w4.heap.size) (by simp) ?_; intro g5 cap5 w5 ho5 hg5 hat5 hlt5; have e5 : w5.cell? ⟨g6, Y.length, none⟩ = some (.string ⟨y.toArray⟩) := (hg5.cell_far ⟨g6, Y.length, none⟩ (by have := hg4.size; simp at this; simp; omega) (by simp [Value.ownBlock]; omega)).trans e4)
          (try dsimp only)
          refine hK.out _ _ ?_ (fun hHeld4 => ?_)
          · first | trivial | ((try dsimp only); first | assumption | trivial | go_keep)
          clear hK K hHeld3
          (try simp only [Act.put, List.setIfInBounds_toArray, List.set_cons_succ, List.set_cons_zero])
          refine wpAnyH_take (i := 12) (oi := { dst := some 4, op := Go.Op.assign (Go.Operand.tmp 68), type := 66, pos := "ref.go:122", after := #[{ on := 11, ground := Go.Ground.data }, { on := 11, ground := Go.Ground.chain }, { on := 0, ground := Go.Ground.phase }, { on := 1, ground := Go.Ground.phase }, { on := 2, ground := Go.Ground.phase }, { on := 3, ground := Go.Ground.phase }, { on := 4, ground := Go.Ground.phase }, { on := 5, ground := Go.Ground.phase }, { on := 6, ground := Go.Ground.phase }, { on := 7, ground := Go.Ground.phase }, { on := 8, ground := Go.Ground.phase }, { on := 9, ground := Go.Ground.phase }, { on := 10, ground := Go.Ground.phase }, { on := 11, ground := Go.Ground.phase }], guard := none }) (v := ?v_1_11_12) rfl (by kernel_rfl) (by kernel_rfl) (by kernel_rfl) (fun _ _ _ h => h) (Or.inl ⟨by rfl, ?hy_1_11_12⟩) (by assumption) ?rest_1_11_12
          case hy_1_11_12 => (intro w hSw; (try dsimp only at hSw); go_simp; (try (with_reducible rfl)))
          (try simp only [Act.put, List.setIfInBounds_toArray, List.set_cons_succ, List.set_cons_zero])
          refine wpAnyH_done (by kernel_rfl) ?_ _
          have bfin : Below w.heap.size w w5 := ((((bw0.alloc (by omega) _).alloc (by simp; omega) _).trans ((below_own (base := w.heap.size + 1) (by have := HE.out (w0.alloc (.cells #[.string (({ data := y.toArray } : ByteArray) ++ ({ data := #[41] } : ByteArray))] 9)) (by simp; omega); simpa using this) hg4 (by simp; omega)).mono (Nat.le_succ _))).trans ((below_own ho4 hg5 (by have := hg4.size; simp at this; omega)).mono (Nat.le_succ _)))
          clear e4 e5 hg4 hg5 hat4 hat5 hHeld4
          rw [HCAT2.out] at ho5
          go_wp2
          go_ret
          refine ⟨some ⟨g5, 0, none⟩, cap5, by rw [HRL.out]; rfl, ?_, bfin⟩
          rw [HRL.out, HRR.out, strL_app]
          exact own_base ho5 (by omega)
end Go.Proofs.Ytnjhbhbohnjckaa
