/-
  Add of a Scope: a new name.
-/
import Derived.Test.YtbnddnoognoekaaScopeAdd
import Derived.Deep.RegionLaw
set_option linter.unusedVariables false
namespace Go.Proofs.Ytbnddnoognoekaa
open Go.RowKit Go.Maps
attribute [local go_sem] ByteArray.extract_mk

theorem info_name : (Try.prog.info? 61).map (fun i => (i.zero, i.size, i.bytes)) = some (some (.agg #[.int .i64 0, .string ByteArray.empty]), 2, 24) := by kernel_rfl
theorem atF_snoc_other (xs : List Nm) (t : Nm) (l : Lit) (h : l ≠ .string t) : atF (xs ++ [t]) l = atF xs l := by
  cases l <;> first | rfl | skip
  rename_i u
  rw [atF_str, atF_str, Sc.find_snoc_other xs t u (fun e => h (by rw [e]))]

set_option maxHeartbeats 1000000 in
set_option maxRecDepth 100000 in
theorem add_new {W : World} {B s : Nat} {y : Lay} {σ : SSt} (h : ScopeAt W B s y σ) (k : Int) (hk : (Lit.int .i64 k).wf = true) (t : Nm) (hr : 0 ≤ k ∧ k < 9) (ht : t ≠ []) (hn : Ltr.name t = true) (hl : t.length ≤ 1000000) (hi : Sc.find (σ.k k.toNat) t = none) (hlen : (σ.k k.toNat).length ≤ 1000000) :
    Calls Try.prog 9 #[.pointer (some ⟨s, 0, none⟩), .int .i64 k, .string ⟨t.toArray⟩] W fun e w' => e = .returned (.tuple #[.int .i64 ((σ.k k.toNat).length : Int), .int .i64 0]) ∧
      ∃ y', ScopeAt w' B s y' { σ with k := upd σ.k k.toNat (σ.k k.toNat ++ [t]) } ∧ Turned W w' B s y y' := by
  have ho := of_any h k hk
  unfold ofF at ho
  rw [if_pos hr] at ho
  have HO := Lib.hid ho
  have hc0 := scope_cell0 h
  have hb : List.isEmpty t = false := by cases t <;> simp at ht ⊢
  have hK := h.kind k.toNat (by omega)
  have tP := h.tp (k := k.toNat) (by omega)
  have tM := h.tm (k := k.toNat) (by omega)
  have tN : ∀ g, (y.nv k.toNat).ownBlock = some g → tagAt W g = some (61 + 1) := fun g hg => h.tn (by omega) hg
  obtain ⟨n, hnn, hm⟩ := hK.map
  obtain ⟨i0, hi0, hz0, hz1, hz2⟩ := info_parts info_name
  have hnm : Hid (∀ W : World, Calls Try.prog 31 #[.string ⟨t.toArray⟩] W fun e w' => e = .returned (.bool true) ∧ W = w') := fun W => by have := lname_any t W (by omega); rw [hn] at this; exact this
  have hlk := hm.look (t := 63) keyed_str Try.underlying63 (zero_int W) (key_str t hl) true
  have ha : atF (σ.k k.toNat) (.string t) = none := by rw [atF_str, hi]; rfl
  rw [ha] at hlk
  simp only [if_true, Option.getD_none, Option.isSome_none] at hlk
  have c0 := kind_cell0 hK
  have c2 := kind_cell2 hK
  have f0 := frozen_of_row W (y.p k.toNat) 0 _ _ hK.blk
  have HR := Lib.hid hr
  have HH := Lib.hid h
  have HK := Lib.hid hK
  obtain ⟨P, hP⟩ : ∃ P, y.p k.toNat = P := ⟨_, rfl⟩
  obtain ⟨M, hM⟩ : ∃ M, y.m k.toNat = M := ⟨_, rfl⟩
  obtain ⟨V, hV⟩ : ∃ V, y.nv k.toNat = V := ⟨_, rfl⟩
  obtain ⟨xs, hxs⟩ : ∃ xs, σ.k k.toNat = xs := ⟨_, rfl⟩
  have hblk := hK.blk
  have hrow := hK.row
  have lp := hK.lp
  rw [hP, hM, hV, hxs] at hblk
  rw [hV, hxs] at hrow
  rw [hP] at lp tP c0 c2 f0 HO
  rw [hM] at tM hm hlk c2
  rw [hV] at tN
  rw [hxs] at hm hnn hi hlen c0 ⊢
  have hPM : P ≠ M := ne_tag tP tM (by decide)
  have hw : IntKind.i64.wrap ((xs.length : Int) + 1) = (xs.length : Int) + 1 := by rw [IntKind.wrap_i64]; omega
  -- the world behind n++
  have hblk1 : (W.setCell ⟨P, 0, none⟩ (.int .i64 ((xs.length : Int) + 1))).heap[P]? = some (.cells #[.int .i64 ((xs.length : Int) + 1), V, .map (some M)] 65 (0, 0)) := by rw [Go.heap_setCell_same W P 0 _ _ _ hblk]; rfl
  have hfar1 : ∀ b, b ≠ P → (W.setCell ⟨P, 0, none⟩ (.int .i64 ((xs.length : Int) + 1))).heap[b]? = W.heap[b]? := fun b hb => Below.heap_setCell _ _ _ _ hb
  have hbel1 : Below B W (W.setCell ⟨P, 0, none⟩ (.int .i64 ((xs.length : Int) + 1))) := (Below.refl B W).setCell (p := ⟨P, 0, none⟩) lp _
  have hm1 := hm.same (hfar1 M (Ne.symm hPM))
  obtain ⟨w2, hrun, hM2, hg2, hz⟩ := hm1.store (t := 63) keyed_str Try.underlying63 (by unfold maxLen; omega) (key_str t hl) (val := .int .i64 (xs.length : Int)) (atF (xs ++ [t])) (by rw [atF_str, Sc.find_snoc_same xs t ht hi]; rfl) (fun l hl => atF_snoc_other xs t l hl)
  have d2 := cell_of_row _ P 2 _ _ _ hblk1
  simp only [List.getElem?_toArray, List.getElem?_cons_succ, List.getElem?_cons_zero] at d2
  have hblk2 := (hg2.block P (by simp [World.setCell]; exact lt_of_heap hblk) (by intro e; injection e with e; exact hPM e)).trans hblk1
  have e1 := cell_of_row w2 P 1 _ _ _ hblk2
  simp only [List.getElem?_toArray, List.getElem?_cons_succ, List.getElem?_cons_zero] at e1
  have f1 := frozen_of_row w2 P 1 _ _ hblk2
  have q1 : (1 : Int) ≤ (t.length : Int) := by have := List.length_pos_iff.2 ht; omega
  have hrow2 : w2.ownsRow B 61 2 V (Sc.nms xs).length (nmCells (Sc.nms xs)) := own_same hrow (fun g hg => by
    have hgP : g ≠ P := ne_tag (tN g hg) tP (by decide)
    have hgM : g ≠ M := ne_tag (tN g hg) tM (by decide)
    rw [hg2.block g (by simp [World.setCell]; exact (hrow.lt g hg).2) (by intro e; injection e with e; exact hgM e), hfar1 g hgP])
  have hnl := Sc.nms_len xs
  have hBs : B ≤ w2.heap.size := by rw [hz]; simp [World.setCell]; have := lt_of_heap hblk; omega
  have HZ := Lib.hid hz
  have HTE := Lib.hid ht
  have HNN := Lib.hid hnn
  have HG := Lib.hid hg2
  have HX := Lib.hid hm1
  have hVP : ∀ g, V.ownBlock = some g → g ≠ P := fun g hg => ne_tag (tN g hg) tP (by decide)
  have hPs : P < w2.heap.size := lt_of_heap hblk2
  clear ho hr hn ha ht hm hm1 hg2 hnn hz
  go_enter Try.func9, Try.ntmps9
  go_wp2_with (first
    | (go_at_call 29; refine (made_yes s y.a _ hc0).mono ?_; rintro e w1 ⟨rfl, rfl⟩)
    | (go_at_call 30; refine HO.out.mono ?_; rintro e w1 ⟨rfl, rfl⟩)
    | (go_at_call 31; refine (hnm.out _).mono ?_; rintro e w1 ⟨rfl, rfl⟩))
  go_region_law (refine step_append_lies _ (by rfl) (.tmp 62) (.tmp 67) 53 (by rfl) B 61 i0 _ 2 24 Try.underlying53 hi0 hz0 hz1 hz2 rfl (by omega) V (Sc.nms xs).length (nmCells (Sc.nms xs)) (by rfl) ((hrow2.drew).alloc _) ⟨w2.heap.size, 0, none⟩ 1 1 _ (by rfl) (by rfl) (World.news_of_block (heap_alloc_new w2.drew _)) (by simp [Value.oneCell']) (by omega) (by unfold maxLen; omega) (by omega) (by simp; omega) (w2.heap.size + 1) (by simp) ?_; intro gg cap w3 hown3 hg3 hat3 hlt3; have hblk3 := ((hg3.block P (by simp; omega) (by intro e; exact hVP P e.symm rfl)).trans (Below.heap_alloc _ _ _ hPs)).trans hblk2; have d3 := cell_of_row w3 P 1 _ _ _ hblk3; have f3 := frozen_of_row w3 P 1 _ _ hblk3)
  all_goals
    have hrow3 : w3.ownsRow B 61 2 (.slice (some ⟨gg, 0, none⟩) ((Sc.nms xs).length + 1) cap) (Sc.nms (xs ++ [t])).length (nmCells (Sc.nms (xs ++ [t]))) := by
      rw [Sc.nms_snoc xs t HTE.out]
      have e1 : (Sc.nms xs ++ [(xs.length, t.tail)]).length = (Sc.nms xs).length + 1 := by simp
      have e2 : nmCells (Sc.nms xs ++ [(xs.length, t.tail)]) = nmCells (Sc.nms xs) ++ #[Value.int IntKind.i64 (xs.length : Int), Value.string { data := (List.take (List.length t - 1) (List.tail t)).toArray }].toList := by
        rw [List.take_of_length_le (by simp)]
        simp [nmCells, str]
      rw [e1, e2]
      exact hown3
    clear hown3
    go_wp2_with fail
    go_ret2
    have hr := HR.out
    have hg2 := HG.out
    have hz := HZ.out
    have hzz : w2.heap.size = W.heap.size := by rw [hz]; simp [World.setCell]
    have hlt := hM2.lt
    have hnew : ∀ b, b < W.heap.size → b ≠ P → b ≠ M → V.ownBlock ≠ some b → (w3.setCell ⟨P, 1, none⟩ (.slice (some ⟨gg, 0, none⟩) ((Sc.nms xs).length + 1) cap)).heap[b]? = W.heap[b]? := fun b hl h1 h2 h3 => by
      have q1 : w3.heap[b]? = w2.heap[b]? := (hg3.block b (by simp; omega) (Ne.symm h3)).trans (Below.heap_alloc w2 _ b (by omega))
      rw [Below.heap_setCell _ _ _ _ h1, q1, hg2.block b (by simp [World.setCell]; omega) (by intro e; injection e with e; exact h2 e), hfar1 b h1]
    have hMM : (w3.setCell ⟨P, 1, none⟩ (.slice (some ⟨gg, 0, none⟩) ((Sc.nms xs).length + 1) cap)).heap[M]? = w2.heap[M]? := by
      have q1 : w3.heap[M]? = w2.heap[M]? := (hg3.block M (by simp; omega) (fun e => absurd rfl (ne_tag tM (tN M e.symm) (by decide)))).trans (Below.heap_alloc w2 _ M (by omega))
      rw [Below.heap_setCell _ _ _ _ (Ne.symm hPM), q1]
    have hgP : gg ≠ P := by
      rcases hat3 with h1 | h1
      · exact hVP gg h1
      · omega
    have hb3 : Below B W w3 := by
      have b1 := hbel1.trans (grown_below hg2 (by have := hK.lm; rw [hM] at this; exact this) (by simp [World.setCell]; have := lt_of_heap hblk; omega))
      exact ((b1.drew).alloc (by show B ≤ w2.heap.size; omega) _).grown hg3 (by simp; omega) (fun g hg => (hrow.lt g hg).1)
    subst hP hM hV
    refine ⟨rfl, _, HH.out.turn_kind k.toNat (by omega) (.slice (some ⟨gg, 0, none⟩) ((Sc.nms xs).length + 1) cap) (y.m k.toNat) (xs ++ [t]) ⟨?_, ⟨n + 1, ?_, hM2.same hMM⟩, own_same hrow3 (fun g hg => ?_), lp, hK.lm⟩ (hb3.setCell (p := ⟨_, 1, none⟩) lp _) hnew ?_ (.inl rfl)⟩
    · rw [Go.heap_setCell_same w3 _ 1 _ _ _ hblk3]
      simp
    · have := HNN.out
      simp
      omega
    · have : g = gg := by simpa [Value.ownBlock] using hg.symm
      subst this
      exact Below.heap_setCell _ _ _ _ hgP
    · rcases hat3 with h1 | h1
      · exact .inl h1.symm
      · exact .inr (.inr ⟨gg, rfl, by omega⟩)
end Go.Proofs.Ytbnddnoognoekaa
