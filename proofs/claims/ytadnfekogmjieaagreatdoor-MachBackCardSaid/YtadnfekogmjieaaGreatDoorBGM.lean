/-
  Layer 51, plain: how long the text of light code is.
  Layer 51, plain: what code that was printed is bounded by.
-/
import Derived.Test.YtadnfekogmjieaaGreatDoorBGI
import Derived.Test.YtadnfekogmjieaaGreatDoorBGK
set_option linter.unusedVariables false
set_option linter.unusedSimpArgs false
namespace Go.Proofs.YtadnfekogmjieaaGreatDoor.Mc
def wl (w : W) : Nat := w.length + 1
theorem wl_eq (w : W) : wl w = w.length + 1 := rfl
theorem join_sum (c : UInt8) : ∀ l : List W, (Lib.join l [c]).length ≤ (l.map wl).sum := by
  have ht : ∀ l : List W, (Lib.joinTail [c] l).length ≤ (l.map wl).sum := by
    intro l
    induction l with
    | nil => simp [Lib.joinTail]
    | cons a l ih =>
      have e : Lib.joinTail [c] (a :: l) = c :: (a ++ Lib.joinTail [c] l) := by simp [Lib.joinTail]
      rw [e, List.length_cons, List.length_append, List.map_cons, List.sum_cons, wl_eq]
      omega
  intro l
  rcases l with _ | ⟨a, l⟩
  · simp [Lib.join]
  · have h2 := ht l
    rw [Lib.join_cons, List.length_append, List.map_cons, List.sum_cons, wl_eq]
    omega
theorem sum_le (m : Nat) : ∀ l : List W, (∀ w ∈ l, wl w ≤ m) → (l.map wl).sum ≤ m * l.length
  | [], _ => by simp
  | w :: l, h => by
    have h1 := h w (by simp)
    have h2 := sum_le m l fun u hu => h u (by simp [hu])
    rw [List.map_cons, List.sum_cons, List.length_cons, Nat.mul_succ]; omega
theorem itoa_idx {z : Int} (h : index z = true) : (Lib.itoa z).length ≤ 10 := by
  obtain ⟨n, rfl, hn⟩ := index_nat h
  rw [itoa_nat]
  exact dec_len 9 n (by omega)
theorem plW_idx {p : Pl} (h : index p.n = true) : (plW p).length ≤ 11 := by
  have := itoa_idx h
  unfold plW; simp; omega
theorem sum_app (a b : List W) : ((a ++ b).map wl).sum = (a.map wl).sum + (b.map wl).sum := by simp
theorem light_line {x : Mi} (h : told x = true) (hn : x.n < 18446744073709551616) (hd : x.d.length ≤ 20) (hs : x.s.length ≤ 20) (ht : x.tos.length ≤ 20) : (line x).length ≤ 900 := by
  have T := (told_iff x).1 h
  unfold line
  rw [if_pos h]
  refine Nat.le_trans (join_sum _ _) ?_
  unfold lineW
  rw [List.map_cons, List.sum_cons, sum_app, sum_app, wl_eq]
  have a0 := row_word x.kind
  have a1 : ((opsW (row x.kind) x).map wl).sum ≤ 120 := by
    have b1 := name_len x.op
    have b2 := itoa_idx T.a1
    have b3 := itoa_idx T.b1
    have b4 := dec20 hn
    have b5 : (Lib.itoa x.trap).length ≤ 10 := itoa_idx (by have := T.t1; unfold index within; simp only [Bool.and_eq_true, decide_eq_true_eq]; omega)
    unfold opsW
    simp only [sum_app]
    rcases (row x.kind).op with _ | _ <;> rcases (row x.kind).a with _ | _ <;> rcases (row x.kind).b with _ | _ <;> rcases (row x.kind).n with _ | _ <;> rcases (row x.kind).t with _ | _ <;> simp [wl_eq] <;> omega
  have a2 : ((placesW x).map wl).sum ≤ 12 * 20 + 2 + 12 * 20 := by
    have c1 := sum_le 12 (x.d.map plW) fun w hw => by
      obtain ⟨p, hp, rfl⟩ := List.mem_map.1 hw
      have := plW_idx (T.d p hp); rw [wl_eq]; omega
    have c2 := sum_le 12 (x.s.map plW) fun w hw => by
      obtain ⟨p, hp, rfl⟩ := List.mem_map.1 hw
      have := plW_idx (T.s p hp); rw [wl_eq]; omega
    rw [List.length_map] at c1 c2
    unfold placesW
    split
    · simp
    · rw [sum_app, List.map_cons, List.sum_cons]
      have e : wl ([61] : W) = 2 := rfl
      rw [e]
      omega
  have a3 : ((toW x).map wl).sum ≤ 2 + 11 * 20 := by
    have c1 := sum_le 11 (x.tos.map Lib.itoa) fun w hw => by
      obtain ⟨p, hp, rfl⟩ := List.mem_map.1 hw
      have := itoa_idx (T.tos p hp); rw [wl_eq]; omega
    rw [List.length_map] at c1
    unfold toW
    split
    · simp
    · rw [List.map_cons, List.sum_cons]
      have e : wl ([58] : W) = 2 := rfl
      rw [e]
      omega
  omega
theorem list_short {l : List Int} (h : Ty.right l = true) : (Ty.list l).length ≤ 90 := by
  have h1 := (right_val h).2
  have h2 := Go.Proofs.YtadnfekogmjieaaGreatDoor.join_len l
  unfold Ty.list
  rw [List.length_cons, List.length_append, List.length_cons, List.length_nil]
  omega
theorem light_head {ps rs : List Int} {slots : Int} : (head ps rs slots).length ≤ 300 := by
  unfold head
  split
  · rename_i h
    simp only [Bool.and_eq_true] at h
    have l1 := list_short h.1.1
    have l2 := list_short h.1.2
    have l3 := itoa_idx h.2
    unfold Ty.text; simp only [List.length_append, List.length_cons, List.length_nil]; omega
  · simp
/-- Light code. -/
structure Mf.Light (f : Mf) : Prop where
  code : f.code.length ≤ 80
  ps : f.ps.length ≤ 20
  rs : f.rs.length ≤ 20
  ins : ∀ x ∈ f.code, x.d.length ≤ 20 ∧ x.s.length ≤ 20 ∧ x.tos.length ≤ 20
theorem light_print {f : Mf} (h : f.Light) (hn : ∀ x ∈ f.code, x.n < 18446744073709551616) (hm : May f) : (print f).length ≤ 80000 ∧ ((Lib.split (print f) [10]).headD []).length ≤ 300 := by
  constructor
  · rw [print_lines hm]
    refine Nat.le_trans (join_sum _ _) ?_
    rw [List.map_cons, List.sum_cons, sum_app, wl_eq]
    have a1 := light_head (ps := f.ps) (rs := f.rs) (slots := f.slots)
    have a2 := sum_le 901 (f.code.map line) fun w hw => by
      obtain ⟨x, hx, rfl⟩ := List.mem_map.1 hw
      obtain ⟨h1, h2, h3⟩ := h.ins x hx
      have := light_line (hm.2 x hx) (hn x hx) h1 h2 h3; rw [wl_eq]; omega
    rw [List.length_map] at a2
    have a3 := h.code
    have a4 : (([[]] : List W).map wl).sum = 1 := rfl
    omega
  · rw [split_print hm, List.headD_cons]
    exact light_head
theorem split_head (s : W) : ((Lib.split s [10]).headD []).length ≤ s.length := by
  obtain ⟨j1, j2⟩ := join_split [10] (by simp) s.length s (Nat.le_refl _)
  obtain ⟨w, L, hL⟩ := List.exists_cons_of_ne_nil j2
  rw [hL] at j1 ⊢
  rw [List.headD_cons, ← j1, Lib.join_cons, List.length_append]
  omega
theorem cut_head {f : Mf} (hm : May f) : ((Lib.split ((print f).take ((print f).length - 1)) [10]).headD []).length ≤ 300 := by
  rw [print_cut hm, split_join _ (by simp) fun w hw => by
    rcases List.mem_cons.1 hw with rfl | hw
    · exact head_no10 hm.1
    · obtain ⟨x, hx, rfl⟩ := List.mem_map.1 hw; exact line_no10 (hm.2 x hx), List.headD_cons]
  exact light_head
end Go.Proofs.YtadnfekogmjieaaGreatDoor.Mc
set_option linter.unusedVariables false
set_option linter.unusedSimpArgs false
namespace Go.Proofs.YtadnfekogmjieaaGreatDoor.Mc
theorem join_has {c : UInt8} : ∀ {L : List W} {w : W}, w ∈ L → w.length ≤ (Lib.join L [c]).length := by
  have ht : ∀ {L : List W} {w : W}, w ∈ L → w.length ≤ (Lib.joinTail [c] L).length := by
    intro L
    induction L with
    | nil => intro w h; cases h
    | cons a L ih =>
      intro w h
      have e : Lib.joinTail [c] (a :: L) = c :: (a ++ Lib.joinTail [c] L) := by simp [Lib.joinTail]
      rw [e, List.length_cons, List.length_append]
      rcases List.mem_cons.1 h with rfl | h
      · omega
      · have := ih h; omega
  intro L w h
  rcases L with _ | ⟨a, L⟩
  · cases h
  · rw [Lib.join_cons, List.length_append]
    rcases List.mem_cons.1 h with rfl | h
    · omega
    · have := ht h; omega
theorem join_count {c : UInt8} (L : List W) : L.length ≤ (Lib.join L [c]).length + 1 := by
  have ht : ∀ L : List W, L.length ≤ (Lib.joinTail [c] L).length := by
    intro L
    induction L with
    | nil => simp
    | cons a L ih =>
      have e : Lib.joinTail [c] (a :: L) = c :: (a ++ Lib.joinTail [c] L) := by simp [Lib.joinTail]
      rw [e, List.length_cons, List.length_cons, List.length_append]
      omega
  rcases L with _ | ⟨a, L⟩
  · simp
  · have := ht L
    rw [Lib.join_cons, List.length_append, List.length_cons]
    omega
theorem index_in {z : Int} (h : index z = true) : InR z := by
  unfold index within at h
  simp only [Bool.and_eq_true, decide_eq_true_eq] at h
  unfold InR
  omega
theorem line_lists {x : Mi} (h : told x = true) : x.d.length ≤ (line x).length ∧ x.s.length ≤ (line x).length ∧ x.tos.length ≤ (line x).length := by
  have hc := join_count (c := 32) (lineW x)
  have e : line x = Lib.join (lineW x) [32] := by unfold line; rw [if_pos h]
  rw [← e] at hc
  unfold lineW at hc
  simp only [List.length_cons, List.length_append] at hc
  have h1 : x.d.length ≤ (placesW x).length ∧ x.s.length ≤ (placesW x).length := by
    unfold placesW
    split
    · rename_i h0; rw [h0.1, h0.2]; simp
    · simp only [List.length_append, List.length_cons, List.length_map]; omega
  have h2 : x.tos.length ≤ (toW x).length := by
    unfold toW
    split
    · rename_i h0; rw [h0]; simp
    · simp only [List.length_cons, List.length_map]; omega
  omega
theorem known_in {op : Int} (h : Opc.known op = true) : InR op := by
  obtain ⟨s, hs⟩ := known_mem h
  have := (ops_facts _ hs).2.2.2.2.2.2
  dsimp only at this
  unfold InR
  omega
theorem told_ok {x : Mi} (h : told x = true) (hn : x.n < 18446744073709551616) (hl : (line x).length ≤ 100000) : x.Ok := by
  have T := (told_iff x).1 h
  obtain ⟨l1, l2, l3⟩ := line_lists h
  obtain ⟨k, hk, hk2⟩ := T.kind
  have hin : InR 0 := by unfold InR; omega
  refine ⟨by unfold InR; omega, ?_, index_in T.a1, index_in T.b1, hn, ⟨by omega, fun p hp => index_in (T.d p hp)⟩, ⟨by omega, fun p hp => index_in (T.s p hp)⟩, ⟨by omega, fun z hz => index_in (T.tos z hz)⟩, ?_⟩
  · rcases ho : (row x.kind).op with _ | _
    · rw [T.op0 ho]; exact hin
    · exact known_in (T.op1 ho).1
  · have := T.t1
    unfold InR; omega
theorem may_ok {f : Mf} (h : May f) (hn : ∀ x ∈ f.code, x.n < 18446744073709551616) (hl : (print f).length ≤ 90000) : f.Ok := by
  have hp := print_lines h
  have hc := join_count (c := 10) (head f.ps f.rs f.slots :: (f.code.map line ++ [[]]))
  rw [← hp] at hc
  simp only [List.length_cons, List.length_append, List.length_map, List.length_nil] at hc
  obtain ⟨⟨h1, h2, h3⟩, -⟩ := head_may h.1
  have r1 := (right_val h1).2
  have r2 := (right_val h2).2
  refine ⟨by omega, by omega, index_in h3, by omega, fun x hx => told_ok (h.2 x hx) (hn x hx) ?_⟩
  have hm : line x ∈ head f.ps f.rs f.slots :: (f.code.map line ++ [[]]) := List.mem_cons_of_mem _ (List.mem_append_left _ (List.mem_map.2 ⟨x, hx, rfl⟩))
  have := join_has (c := 10) hm
  rw [← hp] at this
  omega
end Go.Proofs.YtadnfekogmjieaaGreatDoor.Mc
