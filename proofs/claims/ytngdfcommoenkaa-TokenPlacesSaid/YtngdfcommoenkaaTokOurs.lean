/-
  The law's helper ours copies tokens field by field; the reference's Same compares token lists.
-/
import Derived.Test.YtngdfcommoenkaaTokLex
import Derived.Deep.RegionHeld3
set_option linter.unusedVariables false
namespace Go.Proofs.Ytngdfcommoenkaa
open Go.RowKit

theorem info_rtok : (Try.prog.info? 43).map (fun i => (i.zero, i.size, i.bytes)) = some (some (.agg #[.int .i64 0, .int .i64 0, .string ByteArray.empty]), 3, 32) := by kernel_rfl
theorem toks_len (l : List Tok.Tk) : (toks l).length = l.length * 3 := by
  induction l with
  | nil => rfl
  | cons t l ih => rw [show toks (t :: l) = tokCells t ++ toks l from rfl, List.length_append, ih]; simp [tokCells]; omega
theorem toks_get : ∀ (l : List Tok.Tk) (k : Nat) (h : k < l.length), (toks l)[k * 3]? = some (.int .i64 (l[k].kind : Int)) ∧ (toks l)[k * 3 + 1]? = some (.int .i64 (l[k].pos : Int)) ∧ (toks l)[k * 3 + 2]? = some (.string ⟨l[k].text.toArray⟩) := by
  intro l
  induction l with
  | nil => intro k h; simp at h
  | cons t l ih =>
    intro k h
    rw [show toks (t :: l) = tokCells t ++ toks l from rfl]
    match k, h with
    | 0, _ => simp [tokCells]
    | k + 1, h =>
      have := ih k (by simpa using h)
      rw [show (k + 1) * 3 = 3 + k * 3 from by omega]
      refine ⟨?_, ?_, ?_⟩
      · rw [List.getElem?_append_right (by simp [tokCells])]; simpa [tokCells] using this.1
      · rw [List.getElem?_append_right (by simp [tokCells]; omega)]
        simpa [tokCells, show 3 + k * 3 + 1 - 3 = k * 3 + 1 from by omega] using this.2.1
      · rw [List.getElem?_append_right (by simp [tokCells]; omega)]
        simpa [tokCells, show 3 + k * 3 + 2 - 3 = k * 3 + 2 from by omega] using this.2.2
theorem toks_take (l : List Tok.Tk) (k : Nat) (h : k < l.length) : toks (l.take (k + 1)) = toks (l.take k) ++ [.int .i64 (l[k].kind : Int), .int .i64 (l[k].pos : Int), .string ⟨l[k].text.toArray⟩] := by
  rw [List.take_succ_eq_append_getElem h, toks_snoc]; rfl

/-- The three cells of the k-th token of an owned row. -/
theorem own_tok {w : World} {base : Nat} {e : TypeId} {A : Option Addr} {c : Nat} {L : List Tok.Tk} (h : w.ownsRow base e 3 (.slice A L.length c) L.length (toks L)) (k : Nat) (hk : k < L.length) :
    ∃ g, A = some ⟨g, 0, none⟩ ∧ base ≤ g ∧ g < w.heap.size ∧ w.cell? ⟨g, k * 3, none⟩ = some (.int .i64 (L[k].kind : Int)) ∧ w.cell? ⟨g, k * 3 + 1, none⟩ = some (.int .i64 (L[k].pos : Int)) ∧ w.cell? ⟨g, k * 3 + 2, none⟩ = some (.string ⟨L[k].text.toArray⟩) := by
  obtain ⟨g, cap, hv, hb, hlt⟩ := h.form (by omega)
  injection hv with hA _ hc
  subst hA hc
  obtain ⟨h1, h2, h3⟩ := toks_get L k hk
  exact ⟨g, rfl, hb, hlt, (h.cellAt _ (by omega)).trans h1, (h.cellAt _ (by omega)).trans h2, (h.cellAt _ (by omega)).trans h3⟩

def RetRow (E : TypeId) (L : List Tok.Tk) (w : World) (e : Ending) (w' : World) : Prop :=
  ∃ A c, e = .returned (.slice A L.length c) ∧ w'.ownsRow w.heap.size E 3 (.slice A L.length c) L.length (toks L) ∧ Below w.heap.size w w'

set_option maxHeartbeats 1000000 in
set_option maxRecDepth 100000 in
theorem ours_any (base : Nat) (A : Option Addr) (c : Nat) (L : List Tok.Tk) (w : World) (h : w.ownsRow base 36 3 (.slice A L.length c) L.length (toks L)) (hL : L.length ≤ 100000000) :
    Calls Try.prog 12 #[.slice A L.length c] w (RetRow 43 L w) := by
  obtain ⟨i0, hi0, hz0, hz1, hz2⟩ := info_parts info_rtok
  go_enter Try.func12, Try.ntmps12
  go_wp2
  go_loopw [3, 4] (fun v i wr => ∃ k : Nat, k ≤ L.length ∧ i = .int .i64 k ∧ wr.ownsRow w.heap.size 43 3 v k (toks (L.take k)) ∧ Below w.heap.size w wr) (fun _ i _ => L.length - (intOf i).toNat)
  case atStart => exact ⟨0, by omega, rfl, World.ownsRow_nil _ _ _ _, Below.refl _ _⟩
  case round =>
    obtain ⟨k, hk, rfl, hown, hb⟩ := hrel
    by_cases hkl : k < L.length
    · obtain ⟨g, rfl, _, hg, c0, c1, c2⟩ := own_tok h k hkl
      have hsz := hb.size
      have d0 := (hb.cell (p := ⟨g, k * 3, none⟩) hg).trans c0
      have d1 := (hb.cell (p := ⟨g, k * 3 + 1, none⟩) hg).trans c1
      have d2 := (hb.cell (p := ⟨g, k * 3 + 2, none⟩) hg).trans c2
      have hne : u3.ownBlock ≠ some g := by
        intro he
        have := (hown.lt g he).1
        omega
      have hi0' : (0 : Int) ≤ (k : Int) := Int.natCast_nonneg _
      have hi1 : (k : Int) < (L.length : Int) := by omega
      obtain ⟨kd, hkd⟩ : ∃ kd, (L[k].kind : Int) = kd := ⟨_, rfl⟩
      obtain ⟨ps, hps⟩ : ∃ ps, (L[k].pos : Int) = ps := ⟨_, rfl⟩
      obtain ⟨tx, htx⟩ : ∃ tx, (⟨L[k].text.toArray⟩ : ByteArray) = tx := ⟨_, rfl⟩
      have htake := toks_take L k hkl
      rw [hkd, hps, htx] at htake
      rw [hkd] at d0
      rw [hps] at d1
      rw [htx] at d2
      have HT := Lib.hid htake
      clear c0 c1 c2 htake hkd hps htx h
      go_wp2_with fail
      go_region_held3 (fun w' => w'.cell? ⟨g, k * 3, none⟩ = some (.int .i64 kd) ∧ w'.cell? ⟨g, k * 3 + 1, none⟩ = some (.int .i64 ps) ∧ w'.cell? ⟨g, k * 3 + 2, none⟩ = some (.string tx))
        (first
          | go_keep
          | (go_split_ands
             refine ⟨?_, ?_, ?_⟩
             · (rw [hgrow.cell_far _ (by simp; omega) (Ne.symm hne)]; assumption)
             · (rw [hgrow.cell_far _ (by simp; omega) (Ne.symm hne)]; assumption)
             · (rw [hgrow.cell_far _ (by simp; omega) (Ne.symm hne)]; assumption)))
        ((refine step_append_lies _ (by rfl) _ _ _ (by rfl) w.heap.size 43 i0 _ 3 32 Try.underlying27 hi0 hz0 hz1 hz2 rfl (by omega) u3 k (toks (L.take k)) (by rfl) ((hown.alloc _).drew)
            ⟨wr.heap.size, 0, none⟩ 1 1 [.int .i64 kd, .int .i64 ps, .string tx] (by rfl) (by rfl) (World.news_of_block (cs := #[.int .i64 kd, .int .i64 ps, .string tx]) (t := 43) (fr := (0, 0)) (heap_alloc_new wr _)) (by simp [Value.oneCell'])
            (by omega) (by unfold maxLen; omega) (by omega) (by simp; omega) (wr.heap.size + 1) (by simp) ?_; intro gg cap w1 hown1 hgrow hat hlt))
      have hb1 : Below w.heap.size w w1 := ((hb.alloc hsz _).drew).grown hgrow (by simp; omega) (fun g he => (hown.lt g he).1)
      have hown2 : w1.ownsRow w.heap.size 43 3 (.slice (some ⟨gg, 0, none⟩) (k + 1) cap) (k + 1) (toks (L.take (k + 1))) := by rw [HT.out]; exact hown1
      clear hown1 hgrow hat hlt d0 d1 d2 hown
      go_wp2
      go_roundw
      case rel => exact ⟨k + 1, by omega, by go_num, hown2, hb1⟩
      case measure => simp [intOf]; omega
    · obtain rfl : k = L.length := by omega
      rw [List.take_length] at hown
      obtain ⟨A2, c2, hv, _, _⟩ := own_slice hown
      subst hv
      go_wp2
      go_ret
      exact ⟨A2, c2, rfl, hown, hb⟩

def teq (a b : Tok.Tk) : Bool := a.kind == b.kind && a.pos == b.pos && a.text == b.text
theorem teq_iff (a b : Tok.Tk) : teq a b = true ↔ a = b := by
  obtain ⟨k1, p1, t1⟩ := a
  obtain ⟨k2, p2, t2⟩ := b
  simp [teq, and_assoc]
theorem teq_self (a : Tok.Tk) : teq a a = true := (teq_iff a a).2 rfl

set_option maxHeartbeats 1000000 in
set_option maxRecDepth 100000 in
/-- Same of a list with itself, wherever the two copies lie. -/
theorem same_true (base base' : Nat) (A A' : Option Addr) (c c' : Nat) (L : List Tok.Tk) (w : World) (h : w.ownsRow base 43 3 (.slice A L.length c) L.length (toks L))
    (h' : w.ownsRow base' 43 3 (.slice A' L.length c') L.length (toks L)) (hL : L.length ≤ 100000000) :
    Calls Try.prog 11 #[.slice A L.length c, .slice A' L.length c'] w fun e w' => e = .returned (.bool true) ∧ ∃ n, w' = w.drewN n := by
  go_enter Try.func11, Try.ntmps11
  go_wp2
  go_loopw [5] (fun i wr => ∃ (k q : Nat), k ≤ L.length ∧ i = .int .i64 k ∧ wr = w.drewN q) (fun i _ => L.length - (intOf i).toNat)
  case atStart => exact ⟨0, 0, by omega, rfl, rfl⟩
  case round =>
    obtain ⟨k, q, hk, rfl, rfl⟩ := hrel
    by_cases hkl : k < L.length
    · obtain ⟨g, rfl, _, hg, c0, c1, c2⟩ := own_tok h k hkl
      obtain ⟨g', rfl, _, hg', c0', c1', c2'⟩ := own_tok h' k hkl
      have hi0' : (0 : Int) ≤ (k : Int) := Int.natCast_nonneg _
      have hi1 : (k : Int) < (L.length : Int) := by omega
      obtain ⟨kd, hkd⟩ : ∃ kd, (L[k].kind : Int) = kd := ⟨_, rfl⟩
      obtain ⟨ps, hps⟩ : ∃ ps, (L[k].pos : Int) = ps := ⟨_, rfl⟩
      obtain ⟨tx, htx⟩ : ∃ tx, (⟨L[k].text.toArray⟩ : ByteArray) = tx := ⟨_, rfl⟩
      rw [hkd] at c0 c0'
      rw [hps] at c1 c1'
      rw [htx] at c2 c2'
      clear hkd hps htx h h'
      go_wp2_with fail
      go_quiet (fail)
      go_wp2
      go_roundw
      case rel => exact ⟨k + 1, _, by omega, by go_num, by first | rfl | rw [World.drewN_drewN]⟩
      case measure => simp [intOf]; omega
    · go_wp2
      go_ret
      exact ⟨rfl, q, rfl⟩
end Go.Proofs.Ytngdfcommoenkaa
