/-
  A Writer's methods: sound, Fail, Bytes, Byte, U32, S33, Done; New and Read.
-/
import Derived.Test.YtagcildoebicnaaOctRd3
import Derived.Test.YtagcildoebicnaaLebPut
set_option linter.unusedVariables false
namespace Go.Proofs.Ytagcildoebicnaa
open Go.RowKit

section
variable {W : World} {B g : Nat} {v : Value} {s : Oct.Wt}
theorem WrIn.c0 (h : WrIn W B g v s) : W.cell? ⟨g, 0, none⟩ = some (.bool true) := by rw [cell_of_row W g 0 _ _ _ h.blk]; rfl
theorem WrIn.c1 (h : WrIn W B g v s) : W.cell? ⟨g, 1, none⟩ = some v := by rw [cell_of_row W g 1 _ _ _ h.blk]; rfl
theorem WrIn.c2 (h : WrIn W B g v s) : W.cell? ⟨g, 2, none⟩ = some (.int .i64 s.err) := by rw [cell_of_row W g 2 _ _ _ h.blk]; rfl
theorem WrIn.f1 (h : WrIn W B g v s) : W.frozen? ⟨g, 1, none⟩ = false := frozen_of_row W g 1 _ _ h.blk
theorem WrIn.f2 (h : WrIn W B g v s) : W.frozen? ⟨g, 2, none⟩ = false := frozen_of_row W g 2 _ _ h.blk
end
theorem WrAt.in_ {W : World} {B g : Nat} {v : Value} {s : Oct.Wt} (h : WrAt W B (.pointer (some ⟨g, 0, none⟩)) v s) : WrIn W B g v s := by
  rcases h.it with ⟨h1, -⟩ | ⟨g', h1, hi⟩
  · injection h1 with h1; cases h1
  · injection h1 with h1; injection h1 with h1; injection h1 with h1; subst h1; exact hi
theorem WrAt.ptr {W : World} {B : Nat} {p v : Value} {s : Oct.Wt} (h : WrAt W B p v s) (h0 : s.err = 0) : ∃ g, p = .pointer (some ⟨g, 0, none⟩) := by
  rcases h.it with ⟨-, -, h4⟩ | ⟨g, rfl, hi⟩
  · rw [h4] at h0; cases h0
  · exact ⟨g, rfl⟩
theorem WStep.below {W w' : World} {B : Nat} {p v : Value} {s : Oct.Wt} (h : WrAt W B p v s) (hb : Below W.heap.size W w') : WStep W B p v s w' := ⟨v, h.below hb, Trn.of_below h.base hb⟩

theorem wsound_any {W : World} {B : Nat} {p v : Value} {s : Oct.Wt} (h : WrAt W B p v s) :
    Calls Try.prog 82 #[p] W fun e w' => e = .returned (.bool (s.err == 0)) ∧ W = w' := by
  rcases h.it with ⟨rfl, -, h2⟩ | ⟨g, rfl, hi⟩
  · have H2 := Lib.hid (show (s.err == 0) = false by rw [h2]; rfl)
    clear h2 h
    go_enter Try.func82, Try.ntmps82
    go_wp2
    go_ret
    exact ⟨by rw [H2.out]; rfl, rfl⟩
  · have hc0 := hi.c0
    have hc3 := hi.c2
    clear hi h
    rcases h2 : (s.err == 0) with _ | _
    all_goals
      go_enter Try.func82, Try.ntmps82
      go_wp2
      go_ret
      exact ⟨rfl, rfl⟩
theorem wfail_any {W : World} {B : Nat} {p v : Value} {s : Oct.Wt} (h : WrAt W B p v s) (e0 : Int) :
    Calls Try.prog 47 #[p, .int .i64 e0] W fun e w' => e = .returned (.tuple #[]) ∧ WStep W B p v (s.fail e0) w' := by
  rcases h2 : (s.err == 0) with _ | _
  · have h3 : s.fail e0 = s := by unfold Oct.Wt.fail; rw [if_neg (by simpa using h2)]
    rw [h3]
    have H2 := Lib.hid h2
    clear h2 h3
    go_enter Try.func47, Try.ntmps47
    go_wp2_with (go_at_call 82; refine (wsound_any h).mono ?_; rintro e w1 ⟨rfl, rfl⟩; rw [H2.out])
    go_end0
    exact ⟨rfl, .same h⟩
  · have h3 : s.fail e0 = ⟨s.b, e0⟩ := by unfold Oct.Wt.fail; rw [if_pos (by simpa using h2)]
    rw [h3]
    have H2 := Lib.hid h2
    obtain ⟨g, rfl⟩ := h.ptr (by simpa using h2)
    clear h3 h2
    have hi := h.in_
    have hf := hi.f2
    have hc3 := hi.c2
    go_enter Try.func47, Try.ntmps47
    go_wp2_with (go_at_call 82; refine (wsound_any h).mono ?_; rintro e w1 ⟨rfl, rfl⟩; rw [H2.out])
    go_end0
    have hlt := lt_of_heap hi.blk
    have hB := h.base
    refine ⟨rfl, v, ⟨by simpa using hB, .inr ⟨g, rfl, ?_, own_same hi.row (fun k hk => Below.heap_setCell _ _ _ _ (by intro e; dsimp only at e; subst e; exact hi.ne hk)), hi.lo, hi.ne⟩⟩, (Below.refl _ _).setCell hi.lo _, fun k _ hk => Below.heap_setCell _ _ _ _ (fun e => hk (.inl (by rw [e]))), fun k hk => .inl hk⟩
    rw [Go.heap_setCell_same W g 2 _ _ _ hi.blk]; rfl

set_option maxHeartbeats 1000000 in
set_option maxRecDepth 100000 in
theorem wbytes_any {W : World} {B : Nat} {p v : Value} {s : Oct.Wt} (h : WrAt W B p v s) (A : Option Addr) (c n : Nat) (l : List UInt8) (hn : l.length = n) (hr : RdB W W.heap.size A l) (hlen : s.b.length + l.length ≤ 100000000) :
    Calls Try.prog 83 #[p, .slice A n c] W fun e w' => e = .returned (.tuple #[]) ∧ WStep W B p v (s.bytes l) w' := by
  have HS := Lib.hid (wsound_any h)
  rcases h2 : (s.err == 0) with _ | _
  · have h3 : s.bytes l = s := by unfold Oct.Wt.bytes; rw [if_neg (by simpa using h2)]
    rw [h3]
    rw [h2] at HS
    clear h2 h3
    go_enter Try.func83, Try.ntmps83
    go_wp2_with (go_at_call 82; refine HS.out.mono ?_; rintro e w1 ⟨rfl, rfl⟩)
    go_end0
    exact ⟨rfl, .same h⟩
  · have h0 : s.err = 0 := by simpa using h2
    have h3 : s.bytes l = ⟨s.b ++ l, 0⟩ := by unfold Oct.Wt.bytes; rw [if_pos h0]
    rw [h3]
    rw [h2] at HS
    obtain ⟨g, rfl⟩ := h.ptr h0
    have HE := Lib.hid h0
    clear h3 h2 h0
    have hi := h.in_
    have hc1 := hi.c1
    have hB := h.base
    have hlt := lt_of_heap hi.blk
    have hown := hi.row
    have HB := Lib.hid hi.blk
    have hng := hi.ne
    subst hn
    go_enter Try.func83, Try.ntmps83
    go_wp2_with (first
      | (go_at_call 82; refine HS.out.mono ?_; rintro e w1 ⟨rfl, rfl⟩)
      | (at_builtin; (refine app_bytes W rfl (.tmp 10) (.tmp 11) rfl B _ s.b rfl hown W.heap.size A c l rfl hr (by omega) hB ?_); intro A2 c2 w2 hown2 hg2 hat2; have hb2 := (hg2.block g hlt (Ne.symm hng)).trans HB.out; have k1 := cell_of_row w2 g 1 _ _ _ hb2; have k2 := frozen_of_row w2 g 1 _ _ hb2))
    go_end0
    have hgs : Value.ownBlock (.slice A2 (s.b ++ l).length c2) ≠ some g := by
      intro hg
      rcases hat2 with h1 | h1
      · exact hng (h1 ▸ hg)
      · rw [h1] at hg; injection hg with hg; omega
    have hsz := hg2.size
    refine ⟨rfl, .slice A2 (s.b ++ l).length c2, ⟨by simp; omega, .inr ⟨g, rfl, ?_, ?_, hi.lo, hgs⟩⟩, (below_own hown hg2 hB).setCell hi.lo _, fun k hk hf => ?_, fun k hk => ?_⟩
    · rw [Go.heap_setCell_same w2 g 1 _ _ _ hb2, HE.out]; simp only [List.length_append]; rfl
    · exact own_same hown2 (fun k hk => Below.heap_setCell _ _ _ _ (by intro e; dsimp only at e; subst e; exact hgs hk))
    · exact (Below.heap_setCell _ _ _ _ (fun e => hf (.inl (by rw [e])))).trans (hg2.block k hk (fun e => hf (.inr e.symm)))
    · rcases hk with hk | hk
      · exact .inl (.inl hk)
      · rcases hat2 with h1 | h1
        · exact .inl (.inr (h1 ▸ hk))
        · rw [h1] at hk; injection hk with hk; exact .inr (by omega)

theorem wbyte_any {W : World} {B : Nat} {p v : Value} {s : Oct.Wt} (h : WrAt W B p v s) (x : Int) (h0 : 0 ≤ x) (h1 : x < 256) (hlen : s.b.length ≤ 10000000) :
    Calls Try.prog 49 #[p, .int .u8 x] W fun e w' => e = .returned (.tuple #[]) ∧ WStep W B p v (s.bytes [Oct.b8 x]) w' := by
  have hb : Below W.heap.size W (W.alloc (.cells #[.int .u8 x] 5)) := (Below.refl _ _).alloc (Nat.le_refl _) _
  have hr : RdB (W.alloc (.cells #[.int .u8 x] 5)) (W.alloc (.cells #[.int .u8 x] 5)).heap.size (some ⟨W.heap.size, 0, none⟩) [Oct.b8 x] := by
    have := Reads.one W (.int .u8 x) 5
    rw [byte_of x h0 h1] at this
    rw [byte_of x h0 h1]
    simpa [RdB, rb, Oct.b8] using this
  have HC := Lib.hid (wbytes_any (h.below hb) (some ⟨W.heap.size, 0, none⟩) 1 1 [Oct.b8 x] rfl hr (by simp; omega))
  clear hr
  go_enter Try.func49, Try.ntmps49
  go_wp2_with (go_at_call 83; refine HC.out.mono ?_; rintro e w1 ⟨rfl, hst⟩)
  go_end0
  exact ⟨rfl, .trans (Trn.of_below h.base hb) hst⟩

theorem wU32_any {W : World} {B : Nat} {p v : Value} {s : Oct.Wt} (h : WrAt W B p v s) (n : Int) (hlen : s.b.length ≤ 10000000) :
    Calls Try.prog 67 #[p, .int .i64 n] W fun e w' => e = .returned (.tuple #[]) ∧ WStep W B p v (Oct.putU32 s n) w' := by
  by_cases hbad : n < 0 ∨ 4294967295 < n
  · rw [show Oct.putU32 s n = s.fail 1 from if_pos hbad]
    by_cases hneg : n < 0
    · have g1 : decide (n < 0) = true := by simpa using hneg
      clear hbad
      go_enter Try.func67, Try.ntmps67
      go_wp2_with (go_at_call 47; refine (wfail_any h 1).mono ?_; rintro e w1 ⟨rfl, hst⟩)
      go_wp2
      (try simp only [Exit.inBlock, Exit.then]); refine bodyPost_ret (results_none rfl _ _ _) rfl ?_
      exact ⟨rfl, hst⟩
    · have g1 : decide (n < 0) = false := by simp; omega
      have g2 : decide (4294967295 < n) = true := by simp; omega
      clear hbad
      go_enter Try.func67, Try.ntmps67
      go_wp2_with (go_at_call 47; refine (wfail_any h 1).mono ?_; rintro e w1 ⟨rfl, hst⟩)
      go_wp2
      (try simp only [Exit.inBlock, Exit.then]); refine bodyPost_ret (results_none rfl _ _ _) rfl ?_
      exact ⟨rfl, hst⟩
  · rw [show Oct.putU32 s n = s.bytes (Leb.putU n.toNat) from if_neg hbad]
    obtain ⟨m, rfl⟩ := Int.eq_ofNat_of_zero_le (show 0 ≤ n by omega)
    have hm : m ≤ 4294967295 := by omega
    have g1 : decide ((m : Int) < 0) = false := by simp
    have g2 : decide (4294967295 < (m : Int)) = false := by simp; omega
    have hwr : IntKind.u64.wrap (m : Int) = (m : Int) := Leb.wrapU _ (by omega) (by omega)
    rw [Int.toNat_natCast]
    have hll := Leb.putU_len10 m (by omega)
    have HC := Lib.hid (putU_any none 0 [] m W (RdB.nil_) (by simp) (by unfold InU64; omega))
    rw [List.nil_append] at HC
    clear hbad
    go_enter Try.func67, Try.ntmps67
    go_wp2_with fail
    refine HC.out.mono ?_
    rintro e w1 ⟨A, c, rfl, hown, hc, hb⟩
    have hsz := hb.size
    go_wp2_with fail
    refine (wbytes_any (h.below hb) A c _ _ rfl (RdB.of_own hown) (by omega)).mono ?_
    rintro e w2 ⟨rfl, hst⟩
    go_wp2
    go_end0
    exact ⟨rfl, .trans (Trn.of_below h.base hb) hst⟩

theorem wS33_any {W : World} {B : Nat} {p v : Value} {s : Oct.Wt} (h : WrAt W B p v s) (n : Int) (hlen : s.b.length ≤ 10000000) :
    Calls Try.prog 51 #[p, .int .i64 n] W fun e w' => e = .returned (.tuple #[]) ∧ WStep W B p v (Oct.putS33 s n) w' := by
  by_cases hbad : n < -4294967296 ∨ 4294967295 < n
  · rw [show Oct.putS33 s n = s.fail 1 from if_pos hbad]
    by_cases hneg : n < -4294967296
    · have g1 : decide (n < -4294967296) = true := by simpa using hneg
      clear hbad
      go_enter Try.func51, Try.ntmps51
      go_wp2_with (go_at_call 47; refine (wfail_any h 1).mono ?_; rintro e w1 ⟨rfl, hst⟩)
      go_wp2
      (try simp only [Exit.inBlock, Exit.then]); refine bodyPost_ret (results_none rfl _ _ _) rfl ?_
      exact ⟨rfl, hst⟩
    · have g1 : decide (n < -4294967296) = false := by simp; omega
      have g2 : decide (4294967295 < n) = true := by simp; omega
      clear hbad
      go_enter Try.func51, Try.ntmps51
      go_wp2_with (go_at_call 47; refine (wfail_any h 1).mono ?_; rintro e w1 ⟨rfl, hst⟩)
      go_wp2
      (try simp only [Exit.inBlock, Exit.then]); refine bodyPost_ret (results_none rfl _ _ _) rfl ?_
      exact ⟨rfl, hst⟩
  · rw [show Oct.putS33 s n = s.bytes (Leb.putS n) from if_neg hbad]
    have g1 : decide (n < -4294967296) = false := by simp; omega
    have g2 : decide (4294967295 < n) = false := by simp; omega
    have hll := Leb.putS_len10 n (by omega) (by omega)
    have HC := Lib.hid (putS_any none 0 [] n W (RdB.nil_) (by simp) (by unfold InI64; omega))
    rw [List.nil_append] at HC
    clear hbad
    go_enter Try.func51, Try.ntmps51
    go_wp2_with fail
    refine HC.out.mono ?_
    rintro e w1 ⟨A, c, rfl, hown, hc, hb⟩
    have hsz := hb.size
    go_wp2_with fail
    refine (wbytes_any (h.below hb) A c _ _ rfl (RdB.of_own hown) (by omega)).mono ?_
    rintro e w2 ⟨rfl, hst⟩
    go_wp2
    go_end0
    exact ⟨rfl, .trans (Trn.of_below h.base hb) hst⟩

def doneB (s : Oct.Wt) : List UInt8 := if s.err = 0 then s.b else []
def DoneAt (W : World) (l : List UInt8) (er : Int) (e : Ending) (w' : World) : Prop :=
  ∃ A c, e = .returned (.tuple #[.slice A l.length c, .int .i64 er]) ∧ RdB w' w'.heap.size A l ∧ Below W.heap.size W w'
set_option maxHeartbeats 1000000 in
set_option maxRecDepth 100000 in
theorem wdone_any {W : World} {B : Nat} {p v : Value} {s : Oct.Wt} (h : WrAt W B p v s) (hlen : s.b.length ≤ 100000000) :
    Calls Try.prog 44 #[p] W (DoneAt W (doneB s) s.err) := by
  rcases h.it with ⟨rfl, -, h2⟩ | ⟨g, rfl, hi⟩
  · rw [show doneB s = [] from if_neg (by rw [h2]; decide), h2]
    clear h2 h
    go_enter Try.func44, Try.ntmps44
    go_wp2
    go_ret2
    exact ⟨none, 0, rfl, RdB.nil_, Below.refl _ _⟩
  · have hc0 := hi.c0
    have hc1 := hi.c1
    have hc2 := hi.c2
    rcases h2 : (s.err == 0) with _ | _
    · have h3 : ¬ s.err = 0 := by simpa using h2
      rw [show doneB s = [] from if_neg h3]
      have g1 : (s.err != 0) = true := by simpa using h3
      clear h3 h2
      go_enter Try.func44, Try.ntmps44
      go_wp2
      go_quiet (fail)
      go_wp2
      go_ret2
      exact ⟨none, 0, rfl, RdB.nil_, below_drewN_ (Below.refl _ _) _⟩
    · have h3 : s.err = 0 := by simpa using h2
      rw [show doneB s = s.b from if_pos h3]
      have g1 : (s.err != 0) = false := by simpa using h3
      have HE := Lib.hid h3
      obtain ⟨A, c, rfl, hc, _⟩ := own_slice hi.row
      have hr := RdB.of_own hi.row
      have own0 := World.ownsRow_nil W W.heap.size 5 1
      clear h3 h2
      go_enter Try.func44, Try.ntmps44
      go_wp2_with (at_builtin; refine app_bytes W rfl (.const (.slice none 0 0)) (.tmp 27) rfl W.heap.size _ [] rfl own0 W.heap.size A c s.b rfl hr (by simp; omega) (Nat.le_refl _) ?_; intro A1 c1 w2 hown1 hg1 hat1)
      go_ret2
      exact ⟨A1, c1, by rw [HE.out]; rfl, RdB.of_own hown1, below_own own0 hg1 (Nat.le_refl _)⟩

/-- New things: the object lies in new blocks alone. -/
def FreshW (W : World) (B : Nat) (e : Ending) (w' : World) : Prop := ∃ p v, e = .returned p ∧ WrAt w' B p v ⟨[], 0⟩ ∧ Below W.heap.size W w' ∧ ∀ k, Ft p v k → W.heap.size ≤ k
theorem new_any (W : World) (B : Nat) (hB : B ≤ W.heap.size) : Calls Try.prog 12 #[] W (FreshW W B) := by
  go_enter Try.func12, Try.ntmps12
  go_wp2
  go_ret
  refine ⟨_, .slice none 0 0, rfl, ⟨by simp; omega, .inr ⟨W.heap.size, rfl, ?_, World.ownsRow_nil _ _ _ _, hB, by simp [Value.ownBlock]⟩⟩, (Below.refl _ _).alloc (Nat.le_refl _) _, ?_⟩
  · exact heap_alloc_new W _
  · intro k hk
    rcases hk with hk | hk
    · injection hk with hk; injection hk with hk; injection hk with hk; omega
    · cases hk
def FreshR (W : World) (B : Nat) (b : List UInt8) (e : Ending) (w' : World) : Prop := ∃ p v, e = .returned p ∧ RdrAt w' B p v b ⟨0, 0⟩ ∧ Below W.heap.size W w' ∧ ∀ k, Ft p v k → W.heap.size ≤ k
set_option maxHeartbeats 1000000 in
set_option maxRecDepth 100000 in
theorem read_any (W : World) (B : Nat) (hB : B ≤ W.heap.size) (A : Option Addr) (c n : Nat) (b : List UInt8) (hn : b.length = n) (hr : RdB W W.heap.size A b) (hl : b.length ≤ 1000000) : Calls Try.prog 13 #[.slice A n c] W (FreshR W B b) := by
  subst hn
  have own0 := World.ownsRow_nil W W.heap.size 5 1
  go_enter Try.func13, Try.ntmps13
  go_wp2_with (at_builtin; refine app_bytes W rfl (.const (.slice none 0 0)) (.tmp 3) rfl W.heap.size _ [] rfl own0 W.heap.size A c b rfl hr (by simp; omega) (Nat.le_refl _) ?_; intro A1 c1 w2 hown1 hg1 hat1)
  go_ret
  have hb := below_own own0 hg1 (Nat.le_refl _)
  have hsz := hb.size
  have hown : w2.ownsRow W.heap.size 5 1 (.slice A1 b.length c1) b.length (rb b) := by simpa using hown1
  refine ⟨_, .slice A1 b.length c1, rfl, ⟨by simp; omega, .inr ⟨w2.heap.size, rfl, ?_, own_base (hown.alloc _) hB, by omega, fun e => ?_, Nat.zero_le _, hl⟩⟩, hb.alloc hsz _, ?_⟩
  · exact heap_alloc_new w2 _
  · have := (hown.lt _ e).2; omega
  · intro k hk
    rcases hk with hk | hk
    · injection hk with hk; injection hk with hk; injection hk with hk; omega
    · exact (hown.lt k hk).1
end Go.Proofs.Ytagcildoebicnaa
