/-
  The reads of layer 10: block types, lists of value types.
-/
import Derived.Test.YtagcildoebicnaaBtGet3
import Derived.Test.YtagcildoebicnaaBtPut3
set_option linter.unusedVariables false
namespace Go.Proofs.Ytagcildoebicnaa
open Go.RowKit

def BlkRet (W : World) (B : Nat) (p v : Value) (b : List UInt8) (x : Oct.St × Oct.Blk) (e : Ending) (w' : World) : Prop :=
  e = .returned (.agg #[.int .i64 x.2.kind, .int .i64 x.2.val, .int .i64 x.2.idx]) ∧ RStep W B p v b x.1 w'

theorem u8_in (n : Int) (h0 : 0 ≤ n) (h1 : n < 256) : IntKind.u8.wrap n = n := by rw [IntKind.wrap_u8]; omega
set_option maxHeartbeats 8000000 in
set_option maxRecDepth 100000 in
theorem getBlock_any {W : World} {B : Nat} {p v : Value} {b : List UInt8} {s : Oct.St} (h : RdrAt W B p v b s) :
    Calls Try.prog 15 #[p] W (BlkRet W B p v b (Oct.getBlock b s)) := by
  have hb : Below W.heap.size W (W.alloc (.cells #[.int .i64 0, .int .i64 0, .int .i64 0] 25)) := (Below.refl _ _).alloc (Nat.le_refl _) _
  have bx := Bxr.new W #[.int .i64 0, .int .i64 0, .int .i64 0] 25 (h.not_ft (Nat.le_refl _))
  have h0 := h.below hb
  have st0 := RStep.below h hb
  unfold Oct.getBlock
  dsimp only
  have HC := Lib.hid (rdS33_any h0)
  have hrange : -4294967296 ≤ (Oct.sig b s 33).2 ∧ (Oct.sig b s 33).2 < 4294967296 := by
    rcases Oct.s33_ways b s with ⟨_, h3⟩ | ⟨_, er, _, _, h3⟩ | ⟨_, n, k, hn, hn2, _, _, h3⟩ <;> rw [h3]
    · exact ⟨by dsimp only; omega, by dsimp only; omega⟩
    · exact ⟨by dsimp only; omega, by dsimp only; omega⟩
    · exact ⟨hn, hn2⟩
  obtain ⟨s1, hs1⟩ : ∃ s1, (Oct.sig b s 33).1 = s1 := ⟨_, rfl⟩
  obtain ⟨n, hn⟩ : ∃ n, (Oct.sig b s 33).2 = n := ⟨_, rfl⟩
  rw [hs1, hn] at HC ⊢
  rw [hn] at hrange
  obtain ⟨r0, r1⟩ := hrange
  clear hs1 hn
  by_cases h1 : s1.err = 0
  case neg =>
    rw [if_neg h1]
    have g1 : (s1.err != 0) = true := by simpa using h1
    clear h1
    go_enter Try.func15, Try.ntmps15
    go_wp2_with fail
    refine HC.out.mono ?_
    rintro e w1 ⟨rfl, st1⟩
    have qA := (bx.step st1).cells
    have fA := (bx.step st1).froz
    replace st1 := st0.trans st1
    go_wp2_with fail
    refine (err_any st1.1).mono ?_
    rintro e wq ⟨rfl, rfl⟩
    go_wp2
    refine bodyPost_ret (v := .agg #[.int .i64 0, .int .i64 0, .int .i64 0]) (by simp [results, Try.results15, go_sem, qA]) rfl ?_
    exact ⟨rfl, ((st1.set h (Nat.le_refl _) _ _).set h (Nat.le_refl _) _ _).set h (Nat.le_refl _) _ _⟩
  rw [if_pos h1]
  have g1 : (s1.err != 0) = false := by simpa using h1
  by_cases h64 : n = -64
  · subst h64
    rw [if_pos rfl]
    clear h1
    go_enter Try.func15, Try.ntmps15
    go_wp2_with fail
    refine HC.out.mono ?_
    rintro e w1 ⟨rfl, st1⟩
    have qA := (bx.step st1).cells
    have fA := (bx.step st1).froz
    replace st1 := st0.trans st1
    go_wp2_with fail
    refine (err_any st1.1).mono ?_
    rintro e wq ⟨rfl, rfl⟩
    go_wp2
    refine bodyPost_ret (v := .agg #[.int .i64 0, .int .i64 0, .int .i64 0]) (by simp [results, Try.results15, go_sem, qA]) rfl ?_
    exact ⟨rfl, ((st1.set h (Nat.le_refl _) _ _).set h (Nat.le_refl _) _ _).set h (Nat.le_refl _) _ _⟩
  rw [if_neg h64]
  have g64 : (n == -64) = false := by simpa using h64
  by_cases hpos : 0 ≤ n
  · rw [if_pos hpos]
    have g0 : decide (0 ≤ n) = true := by simpa using hpos
    clear h1 h64
    go_enter Try.func15, Try.ntmps15
    go_wp2_with fail
    refine HC.out.mono ?_
    rintro e w1 ⟨rfl, st1⟩
    have qA := (bx.step st1).cells
    have fA := (bx.step st1).froz
    replace st1 := st0.trans st1
    go_wp2_with fail
    refine (err_any st1.1).mono ?_
    rintro e wq ⟨rfl, rfl⟩
    go_wp2
    refine bodyPost_ret (v := .agg #[.int .i64 2, .int .i64 0, .int .i64 n]) (by simp [results, Try.results15, go_sem, qA]) rfl ?_
    exact ⟨rfl, ((st1.set h (Nat.le_refl _) _ _).set h (Nat.le_refl _) _ _).set h (Nat.le_refl _) _ _⟩
  rw [if_neg hpos]
  have g0 : decide (0 ≤ n) = false := by simpa using hpos
  by_cases h17 : -17 ≤ n
  case neg =>
    rw [if_neg (fun hh => h17 hh.1)]
    have g17 : decide (-17 ≤ n) = false := by simpa using h17
    clear h1 h64 hpos h17
    go_enter Try.func15, Try.ntmps15
    go_wp2_with fail
    refine HC.out.mono ?_
    rintro e w1 ⟨rfl, st1⟩
    have bA := bx.step st1
    replace st1 := st0.trans st1
    go_wp2_with fail
    refine (err_any st1.1).mono ?_
    rintro e wq ⟨rfl, rfl⟩
    go_wp2_with fail
    refine (fail_any st1.1 4).mono ?_
    rintro e w2 ⟨rfl, st2⟩
    have qA := (bA.step st2).cells
    have fA := (bA.step st2).froz
    replace st1 := st1.trans st2
    go_wp2
    refine bodyPost_ret (v := .agg #[.int .i64 0, .int .i64 0, .int .i64 0]) (by simp [results, Try.results15, go_sem, qA]) rfl ?_
    exact ⟨rfl, ((st1.set h (Nat.le_refl _) _ _).set h (Nat.le_refl _) _ _).set h (Nat.le_refl _) _ _⟩
  have g17 : decide (-17 ≤ n) = true := by simpa using h17
  have hw1 : IntKind.i64.wrap (n + 128) = n + 128 := wrap_i64_of _ (by omega) (by omega)
  have hw2 : IntKind.u8.wrap (n + 128) = n + 128 := u8_in _ (by omega) (by omega)
  have HO := Lib.hid (fun w => ofByte_any (n + 128) w)
  generalize Ty.ofByte (n + 128) = y at HO ⊢
  obtain ⟨t, ok⟩ := y
  dsimp only at HO ⊢
  rcases ok with _ | _
  · rw [if_neg (fun hh => by cases hh.2)]
    clear h1 h64
    go_enter Try.func15, Try.ntmps15
    go_wp2_with fail
    refine HC.out.mono ?_
    rintro e w1 ⟨rfl, st1⟩
    have bA := bx.step st1
    replace st1 := st0.trans st1
    go_wp2_with fail
    refine (err_any st1.1).mono ?_
    rintro e wq ⟨rfl, rfl⟩
    go_wp2_with fail
    refine (HO.out _).mono ?_
    rintro e wq ⟨rfl, rfl⟩
    go_wp2_with fail
    refine (fail_any st1.1 4).mono ?_
    rintro e w2 ⟨rfl, st2⟩
    have qA := (bA.step st2).cells
    have fA := (bA.step st2).froz
    replace st1 := st1.trans st2
    go_wp2
    refine bodyPost_ret (v := .agg #[.int .i64 0, .int .i64 0, .int .i64 0]) (by simp [results, Try.results15, go_sem, qA]) rfl ?_
    exact ⟨rfl, ((st1.set h (Nat.le_refl _) _ _).set h (Nat.le_refl _) _ _).set h (Nat.le_refl _) _ _⟩
  · rw [if_pos ⟨h17, rfl⟩]
    clear h1 h64
    go_enter Try.func15, Try.ntmps15
    go_wp2_with fail
    refine HC.out.mono ?_
    rintro e w1 ⟨rfl, st1⟩
    have bA := bx.step st1
    replace st1 := st0.trans st1
    have qA := bA.cells
    have fA := bA.froz
    go_wp2_with fail
    refine (err_any st1.1).mono ?_
    rintro e wq ⟨rfl, rfl⟩
    go_wp2_with fail
    refine (HO.out _).mono ?_
    rintro e wq ⟨rfl, rfl⟩
    go_wp2
    refine bodyPost_ret (v := .agg #[.int .i64 1, .int .i64 t, .int .i64 0]) (by simp [results, Try.results15, go_sem, qA]) rfl ?_
    exact ⟨rfl, ((st1.set h (Nat.le_refl _) _ _).set h (Nat.le_refl _) _ _).set h (Nat.le_refl _) _ _⟩

theorem RStep.past {W w1 w2 : World} {B : Nat} {p v : Value} {b : List UInt8} {s s' : Oct.St} (st : RStep W B p v b s' w1) (h : RdrAt W B p v b s) (hb : Below W.heap.size w1 w2) : RStep W B p v b s' w2 := by
  have hB := h.base
  refine ⟨st.1.keep hb.size (fun k hk => hb.block k (h.ft hk).2), st.2.bel.trans (hb.mono hB), fun k hk hf => (hb.block k hk).trans (st.2.far k hk hf), fun k hk => .inl hk⟩

theorem count_le (b : List UInt8) (s : Oct.St) (most : Int) (hm : 0 ≤ most) : 0 ≤ (Oct.count b s most).2 ∧ (Oct.count b s most).2 ≤ most := by
  unfold Oct.count
  split
  · exact ⟨by dsimp only; omega, by dsimp only; omega⟩
  · rename_i hn
    rcases Oct.u32_ways b s with ⟨_, h3⟩ | ⟨_, er, _, _, h3⟩ | ⟨_, n, k, h1, _, _, h3⟩ <;> rw [h3] at hn ⊢
    · exact ⟨by dsimp only; omega, by dsimp only; omega⟩
    · exact ⟨by dsimp only; omega, by dsimp only; omega⟩
    · exact ⟨by dsimp only; omega, by dsimp only; by_cases hh : most < (n : Int); exact absurd ⟨rfl, hh⟩ hn; omega⟩

theorem info_val : (Try.prog.info? 23).map (fun i => (i.zero, i.size, i.bytes)) = some (some (.int .i64 0), 1, 8) := by kernel_rfl
theorem one_int (t : Int) : ∀ u ∈ (#[.int .i64 t] : Array Value).toList, u.oneCell' = true := by
  intro u hu; simp at hu; subst hu; rfl
def VecRet (W : World) (B : Nat) (p v : Value) (b : List UInt8) (x : Oct.St × List Int) (e : Ending) (w' : World) : Prop :=
  ∃ A c, e = .returned (.slice A x.2.length c) ∧ Lst w' p v A x.2 ∧ RStep W B p v b x.1 w' ∧ (0 < x.2.length → ∀ ad, A = some ad → W.heap.size ≤ ad.block)
/-- What the loop of vals keeps. -/
def ValsRel (W : World) (B : Nat) (p v : Value) (b : List UInt8) (goal : Oct.St × List Int) (k left : Nat) (ov : Value) (wr : World) : Prop :=
  ∃ s' l, l.length = k ∧ RStep W B p v b s' wr ∧ wr.ownsRow W.heap.size 23 1 ov k (l.map (Value.int .i64)) ∧ goal = ((Oct.getN b left s').1, l ++ (Oct.getN b left s').2)
set_option maxHeartbeats 4000000 in
set_option maxRecDepth 100000 in
theorem vals_any {W : World} {B : Nat} {p v : Value} {b : List UInt8} {s : Oct.St} (h : RdrAt W B p v b s) :
    Calls Try.prog 75 #[p] W (VecRet W B p v b (Oct.getVals b s)) := by
  obtain ⟨i0, hi0, hz0, hz1, hz2⟩ := info_parts info_val
  have hmf : ∀ (fn : Fn) (first cap : Array Value) (w : World), (Instr.makeFunc fn first cap).run Try.prog w = .ok (.func fn first cap) w := fun _ _ _ _ => rfl
  have HC := Lib.hid (count_any h 8)
  have hle := count_le b s 8 (by decide)
  unfold Oct.getVals
  obtain ⟨s1, hs1⟩ : ∃ s1, (Oct.count b s 8).1 = s1 := ⟨_, rfl⟩
  obtain ⟨n, hn⟩ : ∃ n, (Oct.count b s 8).2 = n := ⟨_, rfl⟩
  rw [hs1, hn] at HC ⊢
  rw [hn] at hle
  clear hs1 hn
  obtain ⟨m, rfl⟩ := Int.eq_ofNat_of_zero_le hle.1
  have hm8 : m ≤ 8 := by omega
  clear hle
  rw [Int.toNat_natCast]
  obtain ⟨goal, hgoal⟩ : ∃ goal, Oct.getN b m s1 = goal := ⟨_, rfl⟩
  rw [hgoal]
  have HG := Lib.hid hgoal
  clear hgoal
  go_enter Try.func75, Try.ntmps75
  go_wp2_with fail
  refine HC.out.mono ?_
  rintro e w1 ⟨rfl, st1⟩
  go_wp2_with fail
  go_loopw [4, 9] (fun ov iv wr => ∃ k : Nat, k ≤ m ∧ iv = .int .i64 k ∧ ValsRel W B p v b goal k (m - k) ov wr) (fun _ iv _ => m - (intOf iv).toNat)
  case atStart => exact ⟨0, by omega, rfl, s1, [], rfl, st1, World.ownsRow_nil _ _ _ _, by simp [HG.out]⟩
  case round =>
    clear st1
    obtain ⟨k, hk, rfl, s', l, hl, st, hown, hgoal⟩ := hrel
    have HGO := Lib.hid hgoal
    have HL := Lib.hid hl
    clear hgoal hl
    by_cases hlt : k < m
    · have hsz := st.2.bel.size
      go_wp2_with fail
      refine (getVal_any st.1).mono ?_
      rintro e w2 ⟨rfl, st2⟩
      have hsz2 := st2.2.bel.size
      have hown2 :=
        own_same (W' := w2) hown (fun g hg => st2.2.far g (hown.lt g hg).2 (fun hf => by have := (h.ft hf).2; have := (hown.lt g hg).1; omega))
      have hWs : W.heap.size ≤ w2.heap.size := by omega
      clear hown
      go_wp2_with (at_builtin; (refine app_one w2 _ rfl (.tmp 11) (.tmp 14) 74 rfl W.heap.size 23 i0 _ 1 8 Try.underlying74 hi0 hz0 hz1 hz2 rfl (by omega) rfl (one_int _) _ k _ rfl hown2 w2.heap.size rfl rfl (by omega) (by omega) hWs ?_); intro A3 c3 w3 hown3 hg3 hat3)
      go_roundw
      case rel =>
        refine ⟨k + 1, by omega, by go_num, (Oct.getVal b s').1, l ++ [(Oct.getVal b s').2], by simp [HL.out], (st.trans st2).past h (below_own hown2 hg3 hWs), ?_, ?_⟩
        · simpa using hown3
        · rw [HGO.out, show m - k = (m - (k + 1)) + 1 by omega]
          simp [Oct.getN]
      case measure => simp [intOf]; omega
    · have e0 : m - k = 0 := by omega
      rw [e0] at HGO
      have HE : Hid (goal = (s', l)) := by unfold Hid; rw [HGO.out]; simp [Oct.getN]
      obtain ⟨A, c, rfl, hc, _⟩ := own_slice hown
      go_wp2
      go_returns
      have hl := HL.out
      subst hl
      rw [HE.out]
      refine ⟨A, c, rfl, ⟨?_, ?_⟩, st, ?_⟩
      · have := Reads.of_own hown
        exact this
      · intro hp ad hA hf
        obtain ⟨g, cap, hv, hg, _⟩ := hown.form hp
        injection hv with hv
        rw [hA] at hv; injection hv with hv; subst hv
        have := (h.ft hf).2
        dsimp only at this
        omega
      · intro hp ad hA
        obtain ⟨g, cap, hv, hg, _⟩ := hown.form hp
        injection hv with hv
        rw [hA] at hv; injection hv with hv; subst hv
        exact hg
end Go.Proofs.Ytagcildoebicnaa
