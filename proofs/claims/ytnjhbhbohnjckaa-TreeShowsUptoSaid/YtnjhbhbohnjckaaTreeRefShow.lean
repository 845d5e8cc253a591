/-
  The walks of the reference's Show and shows.
-/
import Derived.Test.YtnjhbhbohnjckaaTreeMem
import Derived.Test.YtnjhbhbohnjckaaTreeCount
set_option linter.unusedVariables false
set_option linter.unusedSimpArgs false
namespace Go.Proofs.Ytnjhbhbohnjckaa
open Go.RowKit
open Tree (Tr)

namespace Tree
theorem shows_snoc : ∀ (l : List Tr) (n : Tr), shows (l ++ [n]) = if l = [] then show1 n else (shows l ++ [32]) ++ show1 n
  | [], n => by rw [List.nil_append, if_pos rfl, shows]
  | [m], n => by
    rw [if_neg (by simp), List.singleton_append, shows, shows, shows]
  | m :: m' :: l, n => by
    have ih := shows_snoc (m' :: l) n
    rw [if_neg (by simp)] at ih ⊢
    rw [List.cons_append] at ih
    rw [List.cons_append, List.cons_append, shows, ih, shows]
    simp
theorem shows_take : ∀ (l : List Tr) (k : Nat), ∃ r, shows l = shows (l.take k) ++ r
  | [], k => ⟨[], by simp⟩
  | n :: l, 0 => ⟨shows (n :: l), by rw [List.take_zero, shows]; rfl⟩
  | [n], k + 1 => ⟨[], by simp⟩
  | n :: m :: l, 1 => ⟨[32] ++ shows (m :: l), by rw [shows, List.take_succ_cons, List.take_zero, shows]; simp⟩
  | n :: m :: l, k + 2 => by
    obtain ⟨r, hr⟩ := shows_take (m :: l) (k + 1)
    refine ⟨r, ?_⟩
    rw [List.take_succ_cons] at hr
    rw [shows, hr, List.take_succ_cons, List.take_succ_cons, shows]
    simp
theorem shows_take_len (l : List Tr) (k : Nat) : (shows (l.take k)).length ≤ (shows l).length := by
  obtain ⟨r, hr⟩ := shows_take l k
  rw [hr, List.length_append]; omega
end Tree

def ShowsAt (f : FuncId) (l : List Tr) : Prop := ∀ (A : Option Addr) (c : Nat) (S : Nat → Prop) (w : World), Lies w S A l → (∀ g, S g → g < w.heap.size) →
  Calls Try.prog f #[.slice A l.length c] w fun e w' => e = .returned (.string ⟨(Tree.shows l).toArray⟩) ∧ Below w.heap.size w w'

set_option maxHeartbeats 2000000 in
set_option maxRecDepth 100000 in
theorem refShow_of {l : List Tr} (k p : Int) (H : k = 0 → ShowsAt 30 l) (t : List UInt8) (A : Option Addr) (c : Nat) (S : Nat → Prop) (w : World) (hl : Lies w S A l) (hS : ∀ g, S g → g < w.heap.size) (n : Nat) (hn : (Tree.show1 (.mk k p t l)).length = n) (hlen : n ≤ 1000000000) :
    Calls Try.prog 18 #[.agg #[.int .i64 k, .int .i64 p, .string ⟨t.toArray⟩, .slice A l.length c]] w fun e w' => e = .returned (.string ⟨(Tree.show1 (.mk k p t l)).toArray⟩) ∧ Below w.heap.size w w' := by
  have hb1 := (Below.refl w.heap.size w).alloc (Nat.le_refl _) (Obj.cells #[.int .i64 k, .int .i64 p, .string ⟨t.toArray⟩, .slice A l.length c] 43)
  rw [Tree.show1] at hn ⊢
  by_cases h2 : k = 2
  · subst h2
    rw [if_pos rfl]
    clear hn
    go_enter Try.func18, Try.ntmps18
    go_wp2
    go_ret
    exact ⟨rfl, hb1⟩
  by_cases h3 : k = 3
  · subst h3
    rw [if_neg (by decide), if_pos rfl] at hn ⊢
    simp only [List.length_append, List.length_singleton] at hn
    have ht : t.length ≤ 1000000000 := by omega
    clear hn h2
    go_enter Try.func18, Try.ntmps18
    go_wp2
    go_ret
    exact ⟨congrArg Ending.returned (congrArg Value.string (by apply ByteArray.ext; simp)), hb1⟩
  have g2 : (k == 2) = false := by simpa using h2
  have g3 : (k == 3) = false := by simpa using h3
  by_cases h0 : k = 0
  · subst h0
    rw [if_neg (by decide), if_neg (by decide), if_pos rfl] at hn ⊢
    simp only [List.length_append, List.length_singleton] at hn
    have hc := H rfl A c S _ (hl.keep (fun g hg => hb1.block g (hS g hg)) (fun _ h => h)) (fun g hg => Nat.lt_of_lt_of_le (hS g hg) hb1.size)
    obtain ⟨T, hT⟩ : ∃ T, Tree.shows l = T := ⟨_, rfl⟩
    rw [hT] at hc hn ⊢
    have ht : T.length ≤ 1000000000 := by omega
    have HC := Lib.hid hc
    clear hn h2 h3 hc hT hl hS
    go_enter Try.func18, Try.ntmps18
    go_wp2_with fail
    refine HC.out.mono ?_
    rintro e w2 ⟨rfl, hb2⟩
    go_wp2
    go_ret
    exact ⟨congrArg Ending.returned (congrArg Value.string (by apply ByteArray.ext; simp)), hb1.trans (hb2.mono hb1.size)⟩
  have g0 : (k == 0) = false := by simpa using h0
  rw [if_neg h2, if_neg h3, if_neg h0]
  clear hn h2 h3 h0
  go_enter Try.func18, Try.ntmps18
  go_wp2
  go_ret
  exact ⟨rfl, hb1⟩

set_option maxHeartbeats 2000000 in
set_option maxRecDepth 100000 in
theorem refShows_any : ∀ (f : Nat) (l : List Tr), Tree.counts l < f → (Tree.shows l).length ≤ 1000000000 → Tree.counts l ≤ 1000000 → ShowsAt 30 l := by
  intro f
  induction f with
  | zero => intro l h; omega
  | succ f ih =>
    intro l hf hlen hct A c S w hl hS
    have hll := Tree.len_le_counts l
    have HL := Lib.hid hl
    clear hl
    go_enter Try.func30, Try.ntmps30
    go_wp2
    go_loopw [3, 4] (fun s i wr => ∃ j : Nat, j ≤ l.length ∧ s = .string ⟨(Tree.shows (l.take j)).toArray⟩ ∧ i = .int .i64 j ∧ Below w.heap.size w wr) (fun _ i _ => l.length - (intOf i).toNat)
    case atStart => exact ⟨0, by omega, by rw [List.take_zero, Tree.shows], rfl, Below.refl _ _⟩
    case round =>
      obtain ⟨j, hj, rfl, rfl, hb⟩ := hrel
      by_cases hjl : j < l.length
      · obtain ⟨g, o, rfl, hg, c0, c1, c2, A', c', c3, hl', -⟩ := HL.out.get j hjl
        have hsz := hb.size
        have hgl := hS _ hg
        have d0 := (hb.cell (p := ⟨g, o + j * 4, none⟩) hgl).trans c0
        have d1 := (hb.cell (p := ⟨g, o + j * 4 + 1, none⟩) hgl).trans c1
        have d2 := (hb.cell (p := ⟨g, o + j * 4 + 2, none⟩) hgl).trans c2
        have d3 := (hb.cell (p := ⟨g, o + j * 4 + 3, none⟩) hgl).trans c3
        have hi0 : (0 : Int) ≤ (j : Int) := Int.natCast_nonneg _
        have hi1 : (j : Int) < (l.length : Int) := by omega
        have hsn := Tree.shows_snoc (l.take j) l[j]
        rw [← List.take_succ_eq_append_getElem hjl] at hsn
        have hsl := Tree.shows_take_len l (j + 1)
        have hsj := Tree.shows_take_len l j
        have htk := Tree.counts_take l j hjl
        have htl := Tree.counts_take_le l (j + 1)
        obtain ⟨m, hm⟩ : ∃ m, l[j] = m := ⟨_, rfl⟩
        rw [hm] at d0 d1 d2 d3 hl' hsn htk
        clear c0 c1 c2 c3 hm
        obtain ⟨mk, mp, mt, ml⟩ := m
        dsimp only [Tree.Tr.kind, Tree.Tr.pos, Tree.Tr.text, Tree.Tr.l] at d0 d1 d2 d3 hl'
        rw [Tree.count] at htk
        obtain ⟨P, hP⟩ : ∃ P, Tree.shows (l.take j) = P := ⟨_, rfl⟩
        obtain ⟨N, hN⟩ : ∃ N, Tree.show1 (.mk mk mp mt ml) = N := ⟨_, rfl⟩
        rw [hP] at hsn hsj ⊢
        have hPl : P.length ≤ 1000000000 := by omega
        have hNl : N.length ≤ 1000000000 := by
          rw [hsn, hN] at hsl
          split at hsl
          · omega
          · simp only [List.length_append] at hsl; omega
        have hK : mk = 0 → ShowsAt 30 ml := by
          intro h0
          refine ih ml (by omega) ?_ (by omega)
          rw [← hN, Tree.show1, h0, if_neg (by decide), if_neg (by decide), if_pos rfl] at hNl
          simp only [List.length_append, List.length_singleton] at hNl
          omega
        have hcall := refShow_of mk mp hK mt A' c' S wr (hl'.keep (fun g hg => hb.block g (hS g hg)) (fun _ h => h)) (fun g hg => Nat.lt_of_lt_of_le (hS g hg) hb.size) N.length (by rw [hN]) hNl
        rw [hN] at hcall hsn
        have hz : (l.take j = []) ↔ j = 0 := by
          constructor
          · intro e
            have := congrArg List.length e
            rw [List.length_take, List.length_nil] at this
            omega
          · rintro rfl; rfl
        have HC := Lib.hid hcall
        clear hcall htl htk hN hsl hsj hl' hK
        rcases Nat.eq_zero_or_pos j with h0 | h0
        · have gz : decide (0 < j) = false := by simp; omega
          have gz2 : decide ((0 : Int) < (j : Int)) = false := by simp; omega
          rw [if_pos (hz.2 h0)] at hsn
          have hP0 : P = [] := by rw [← hP, h0, List.take_zero, Tree.shows]
          subst hP0
          have HN := Lib.hid hsn
          clear hsn hz h0 hP
          go_wp2_with fail
          refine HC.out.mono ?_
          rintro e w2 ⟨rfl, hb2⟩
          go_wp2
          go_roundw
          case rel => exact ⟨j + 1, by omega, by rw [HN.out]; exact congrArg Value.string (by apply ByteArray.ext; simp), by go_num, hb.trans (hb2.mono hb.size)⟩
          case measure => simp [intOf]; omega
        · have gz : decide (0 < j) = true := by simp; omega
          have gz2 : decide ((0 : Int) < (j : Int)) = true := by simp; omega
          rw [if_neg (fun e => by have := hz.1 e; omega)] at hsn
          have HN := Lib.hid hsn
          clear hsn hz hP
          go_wp2_with fail
          refine HC.out.mono ?_
          rintro e w2 ⟨rfl, hb2⟩
          go_wp2
          go_roundw
          case rel => exact ⟨j + 1, by omega, by rw [HN.out]; exact congrArg Value.string (by apply ByteArray.ext; simp), by go_num, hb.trans (hb2.mono hb.size)⟩
          case measure => simp [intOf]; omega
      · obtain rfl : j = l.length := by omega
        rw [List.take_length]
        go_wp2
        go_ret
        exact ⟨rfl, hb⟩
end Go.Proofs.Ytnjhbhbohnjckaa
