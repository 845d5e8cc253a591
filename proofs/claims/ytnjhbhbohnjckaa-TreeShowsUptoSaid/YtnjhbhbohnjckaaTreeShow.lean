/-
  The walks of Show and shows.
-/
import Derived.Test.YtnjhbhbohnjckaaTreeRefShow
import Derived.Test.YtnjhbhbohnjckaaShelf
set_option linter.unusedVariables false
set_option linter.unusedSimpArgs false
namespace Go.Proofs.Ytnjhbhbohnjckaa
open Go.RowKit
open Tree (Tr)

theorem info_strs : (Try.prog.info? 9).map (fun i => (i.zero, i.size, i.bytes)) = some (some (.string ByteArray.empty), 1, 16) := by kernel_rfl
theorem one_oneS {a : Value} (ha : a.oneCell' = true) : ∀ u ∈ (#[a] : Array Value).toList, u.oneCell' = true := by
  intro u hu; simp at hu; rw [hu]; exact ha
def strL (xs : List (List UInt8)) : List Value := xs.map (fun x => Value.string ⟨x.toArray⟩)
namespace Tree
theorem shows_join : ∀ l : List Tr, shows l = Lib.join (l.map show1) [32]
  | [] => by rw [shows]; rfl
  | [n] => by rw [shows]; simp [Lib.join]
  | n :: m :: l => by
    have ih := shows_join (m :: l)
    rw [shows, ih]
    simp [Lib.join]
theorem show1_len : ∀ (l : List Tr) (j : Nat) (h : j < l.length), (show1 l[j]).length ≤ (shows l).length
  | [], j, h => by simp at h
  | [n], 0, h => by rw [shows]; exact Nat.le_refl _
  | [n], j + 1, h => by simp at h
  | n :: m :: l, 0, h => by rw [shows, List.length_append, List.length_append]; simp only [List.getElem_cons_zero]; omega
  | n :: m :: l, j + 1, h => by
    have := show1_len (m :: l) j (by simpa using h)
    rw [shows, List.length_append, List.length_append, List.getElem_cons_succ]
    omega
end Tree
theorem joinL_any (base : Nat) (A : Option Addr) (cr : Nat) (xs : List (List UInt8)) (w : World) (hown : w.ownsRow base 9 1 (.slice A xs.length cr) xs.length (strL xs)) (hl : (Lib.join xs [32]).length ≤ 1000000000) (hx : xs.length ≤ 1000000000) :
    Calls Try.prog 42 #[.slice A xs.length cr, .string { data := #[32] }] w fun e w' => e = .returned (.string ⟨(Lib.join xs [32]).toArray⟩) ∧ Below w.heap.size w w' := by
  by_cases h0 : xs = []
  · subst h0
    refine (Try.strings_Join_none A cr { data := #[32] } w).mono ?_
    rintro e w1 ⟨rfl, rfl⟩
    exact ⟨rfl, Below.refl _ _⟩
  · have hp : 0 < xs.length := by
      rcases Nat.eq_zero_or_pos xs.length with h | h
      · exact absurd (List.eq_nil_of_length_eq_zero h) h0
      · exact h
    obtain ⟨hcap, _⟩ := own_cap hown
    obtain ⟨g, cap, hv, _, hlt⟩ := hown.form hp
    injection hv with hA _ hc
    subst hA hc
    have e1 : (xs.map (fun t => (⟨t.toArray⟩ : ByteArray))).map (·.data.toList) = xs := by simp [Function.comp_def]
    have := Try.strings_Join g 0 cr (xs.map (fun t => (⟨t.toArray⟩ : ByteArray))) { data := #[32] } w (by
      intro j x hx
      have hjl : j < xs.length := by
        rcases Nat.lt_or_ge j xs.length with h | h
        · exact h
        · rw [List.getElem?_eq_none (by simpa using h)] at hx; cases hx
      rw [Nat.zero_add, hown.cellAt j (by omega)]
      simp [hjl] at hx
      subst hx
      simp [strL, hjl]) hlt (by simp; omega) (by simpa using hcap) (by rw [e1]; show (Lib.join xs [32]).length ≤ _; omega)
    rw [e1, List.length_map] at this
    exact this

set_option maxHeartbeats 2000000 in
set_option maxRecDepth 100000 in
theorem show_of {l : List Tr} (k p : Int) (H : k = 0 → ShowsAt 29 l) (t : List UInt8) (A : Option Addr) (c : Nat) (S : Nat → Prop) (w : World) (hl : Lies w S A l) (hS : ∀ g, S g → g < w.heap.size) (n : Nat) (hn : (Tree.show1 (.mk k p t l)).length = n) (hlen : n ≤ 1000000000) :
    Calls Try.prog 17 #[.agg #[.int .i64 k, .int .i64 p, .string ⟨t.toArray⟩, .slice A l.length c]] w fun e w' => e = .returned (.string ⟨(Tree.show1 (.mk k p t l)).toArray⟩) ∧ Below w.heap.size w w' := by
  have hb1 := (Below.refl w.heap.size w).alloc (Nat.le_refl _) (Obj.cells #[.int .i64 k, .int .i64 p, .string ⟨t.toArray⟩, .slice A l.length c] 36)
  rw [Tree.show1] at hn ⊢
  by_cases h2 : k = 2
  · subst h2
    rw [if_pos rfl]
    clear hn
    go_enter Try.func17, Try.ntmps17
    go_wp2
    go_ret
    exact ⟨rfl, hb1⟩
  by_cases h3 : k = 3
  · subst h3
    rw [if_neg (by decide), if_pos rfl] at hn ⊢
    simp only [List.length_append, List.length_singleton] at hn
    have ht : t.length ≤ 1000000000 := by omega
    clear hn h2
    go_enter Try.func17, Try.ntmps17
    go_wp2
    go_ret
    exact ⟨congrArg Ending.returned (congrArg Value.string (by apply ByteArray.ext; simp)), hb1⟩
  have g2 : (k == 2) = false := by simpa using h2
  have g3 : (k == 3) = false := by simpa using h3
  by_cases h0 : k = 0
  · subst h0
    rw [if_neg (by decide), if_neg (by decide), if_pos rfl] at hn ⊢
    simp only [List.length_append, List.length_singleton] at hn
    have hc := H rfl A c S _ (hl.keep (fun g hg => hb1.block g (hS g hg)) (fun _ h => h)) (fun g hg => Nat.lt_of_lt_of_le (hS g hg) hb1.size)
    obtain ⟨T, hT⟩ : ∃ T, Tree.shows l = T := ⟨_, rfl⟩
    rw [hT] at hc hn ⊢
    have ht : T.length ≤ 1000000000 := by omega
    have HC := Lib.hid hc
    clear hn h2 h3 hc hT hl hS
    go_enter Try.func17, Try.ntmps17
    go_wp2_with fail
    refine HC.out.mono ?_
    rintro e w2 ⟨rfl, hb2⟩
    go_wp2
    go_ret
    exact ⟨congrArg Ending.returned (congrArg Value.string (by apply ByteArray.ext; simp)), hb1.trans (hb2.mono hb1.size)⟩
  have g0 : (k == 0) = false := by simpa using h0
  rw [if_neg h2, if_neg h3, if_neg h0]
  clear hn h2 h3 h0
  go_enter Try.func17, Try.ntmps17
  go_wp2
  go_ret
  exact ⟨rfl, hb1⟩

set_option maxHeartbeats 2000000 in
set_option maxRecDepth 100000 in
theorem shows_any : ∀ (f : Nat) (l : List Tr), Tree.counts l < f → (Tree.shows l).length ≤ 1000000000 → Tree.counts l ≤ 1000000 → ShowsAt 29 l := by
  intro f
  induction f with
  | zero => intro l h; omega
  | succ f ih =>
    intro l hf hlen hct A c S w hl hS
    have hll := Tree.len_le_counts l
    have HL := Lib.hid hl
    clear hl
    obtain ⟨i0, ti0, hz0, hz1, hz2⟩ := info_parts info_strs
    go_enter Try.func29, Try.ntmps29
    go_wp2
    go_loopw [3, 8] (fun v i wr => ∃ (j : Nat) (Ar : Option Addr) (cr : Nat), j ≤ l.length ∧ v = .slice Ar j cr ∧ i = .int .i64 j ∧ wr.ownsRow w.heap.size 9 1 (.slice Ar j cr) j (strL ((l.take j).map Tree.show1)) ∧ Below w.heap.size w wr) (fun _ i _ => l.length - (intOf i).toNat)
    case atStart => exact ⟨0, none, 0, by omega, rfl, rfl, World.ownsRow_nil _ _ _ _, Below.refl _ _⟩
    case round =>
      obtain ⟨j, Ar, cr, hj, rfl, rfl, hown, hb⟩ := hrel
      by_cases hjl : j < l.length
      · obtain ⟨g, o, rfl, hg, c0, c1, c2, A', c', c3, hl', -⟩ := HL.out.get j hjl
        have hsz := hb.size
        have hgl := hS _ hg
        have d0 := (hb.cell (p := ⟨g, o + j * 4, none⟩) hgl).trans c0
        have d1 := (hb.cell (p := ⟨g, o + j * 4 + 1, none⟩) hgl).trans c1
        have d2 := (hb.cell (p := ⟨g, o + j * 4 + 2, none⟩) hgl).trans c2
        have d3 := (hb.cell (p := ⟨g, o + j * 4 + 3, none⟩) hgl).trans c3
        have hi0 : (0 : Int) ≤ (j : Int) := Int.natCast_nonneg _
        have hi1 : (j : Int) < (l.length : Int) := by omega
        have hap : strL ((l.take (j + 1)).map Tree.show1) = strL ((l.take j).map Tree.show1) ++ [.string ⟨(Tree.show1 l[j]).toArray⟩] := by
          rw [List.take_succ_eq_append_getElem hjl, List.map_append]; simp [strL]
        have hNl0 := Tree.show1_len l j hjl
        have htk := Tree.counts_take l j hjl
        have htl := Tree.counts_take_le l (j + 1)
        obtain ⟨m, hm⟩ : ∃ m, l[j] = m := ⟨_, rfl⟩
        rw [hm] at d0 d1 d2 d3 hl' hap htk hNl0
        clear c0 c1 c2 c3 hm
        obtain ⟨mk, mp, mt, ml⟩ := m
        dsimp only [Tree.Tr.kind, Tree.Tr.pos, Tree.Tr.text, Tree.Tr.l] at d0 d1 d2 d3 hl'
        rw [Tree.count] at htk
        obtain ⟨N, hN⟩ : ∃ N, Tree.show1 (.mk mk mp mt ml) = N := ⟨_, rfl⟩
        have hNl : N.length ≤ 1000000000 := by rw [← hN]; omega
        have hK : mk = 0 → ShowsAt 29 ml := by
          intro h0
          refine ih ml (by omega) ?_ (by omega)
          rw [← hN, Tree.show1, h0, if_neg (by decide), if_neg (by decide), if_pos rfl] at hNl
          simp only [List.length_append, List.length_singleton] at hNl
          omega
        have hb1 := hb.alloc hsz (Obj.cells #[.int .i64 mk, .int .i64 mp, .string ⟨mt.toArray⟩, .slice A' ml.length c'] 36)
        have hcall := show_of mk mp hK mt A' c' S _ (hl'.keep (fun g hg => hb1.block g (hS g hg)) (fun _ h => h)) (fun g hg => Nat.lt_of_lt_of_le (hS g hg) hb1.size) N.length (by rw [hN]) hNl
        rw [hN] at hcall hap
        have HC := Lib.hid hcall
        have HT := Lib.hid hap
        clear hcall htl htk hN hl' hK hap hNl0
        have ho1 := hown.alloc (Obj.cells #[.int .i64 mk, .int .i64 mp, .string ⟨mt.toArray⟩, .slice A' ml.length c'] 36)
        go_wp2_with fail
        refine HC.out.mono ?_
        rintro e w2 ⟨rfl, hb2⟩
        have ho2 := own_below ho1 hb2 (Nat.le_refl _)
        have hb3 : Below w.heap.size w w2 := hb1.trans (hb2.mono hb1.size)
        have hsz3 := hb3.size
        go_wp2_with (at_builtin; (refine app_one _ _ rfl (.tmp 12) (.tmp 15) 66 rfl w.heap.size 9 i0 _ 1 16 Try.underlying66 ti0 hz0 hz1 hz2 rfl (by omega) rfl (one_oneS rfl) _ j _ rfl ho2 w2.heap.size rfl rfl (by omega) (by omega) hsz3 ?_); intro A2 c2 w3 hown2 hg2 hat2)
        have hb4 := hb3.trans (below_own ho2 hg2 hsz3)
        have ho : w3.ownsRow w.heap.size 9 1 (.slice A2 (j + 1) c2) (j + 1) (strL ((l.take (j + 1)).map Tree.show1)) := by rw [HT.out]; exact hown2
        clear hown2 hg2 hat2 hown
        go_roundw
        case rel => exact ⟨j + 1, A2, c2, by omega, rfl, by go_num, ho, hb4⟩
        case measure => simp [intOf]; omega
      · obtain rfl : j = l.length := by omega
        rw [List.take_length] at hown
        have hown' : wr.ownsRow w.heap.size 9 1 (.slice Ar (l.map Tree.show1).length cr) (l.map Tree.show1).length (strL (l.map Tree.show1)) := by rw [List.length_map]; exact hown
        have hj := joinL_any w.heap.size Ar cr (l.map Tree.show1) wr hown' (by rw [← Tree.shows_join]; exact hlen) (by rw [List.length_map]; omega)
        rw [← Tree.shows_join, List.length_map] at hj
        have HJ := Lib.hid hj
        clear hj hown'
        go_wp2_with fail
        refine HJ.out.mono ?_
        rintro e w2 ⟨rfl, hb2⟩
        go_wp2
        go_ret
        exact ⟨rfl, hb.trans (hb2.mono hb.size)⟩
end Go.Proofs.Ytnjhbhbohnjckaa
