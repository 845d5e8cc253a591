/-
  The walk of the law TreeBack.
-/
import Derived.Test.YtnjhbhbohnjckaaTreeAlive
import Derived.Test.YtnjhbhbohnjckaaTreeParsesW
import Derived.Test.YtnjhbhbohnjckaaTreeBackQ
import Derived.Test.YtnjhbhbohnjckaaTreeShow
import Derived.Deep.RegionWith
import Derived.Deep.CutBlock
set_option linter.unusedVariables false
set_option linter.unusedSimpArgs false
namespace Go.Proofs.Ytnjhbhbohnjckaa
open Go.RowKit
open Tree (Tr)

def RetTurned (l : List Tr) (w : World) (e : Ending) (w' : World) : Prop := ∃ A' c', e = .returned (.slice A' l.length c') ∧ Lies w' (Fresh w.heap.size w') A' l ∧ l.length ≤ c' ∧ c' ≤ maxLen ∧ Below w.heap.size w w'
theorem turned_at {w0 : World} {l : List Tr} {A : Option Addr} {c : Nat} {S : Nat → Prop} (hct : Tree.counts l ≤ 1000000) (hl : Lies w0 S A l) (hS : ∀ g, S g → g < w0.heap.size) (W : World) (hb : Below w0.heap.size w0 W) :
    Calls Try.prog 12 #[.slice A l.length c] W (RetTurned l W) :=
  (turned_any (Tree.counts l + 1) l (by omega) hct A c S W (lies_below hl hb hS) (fun g hg => Nat.lt_of_lt_of_le (hS g hg) hb.size)).mono fun _ _ h => h
theorem same_at {w0 : World} {a b : List Tr} {A B : Option Addr} {c d : Nat} {S T : Nat → Prop} (hct : Tree.counts a ≤ 1000000) (hs : Tree.sames false a b = true) (ha : Lies w0 S A a) (hS : ∀ g, S g → g < w0.heap.size) (hb : Lies w0 T B b) (hT : ∀ g, T g → g < w0.heap.size) :
    Calls Try.prog 11 #[.slice A a.length c, .slice B b.length d, .bool false] w0 fun e w' => e = .returned (.bool true) ∧ Below w0.heap.size w0 w' := by
  have := same_any (Tree.counts a + 1) a (by omega) hct b A B c d S T false w0 ha hS hb hT
  rw [hs] at this
  exact this

def RetT1 (n : Tr) (w : World) (e : Ending) (w' : World) : Prop := ∃ A' c', e = .returned (.slice A' 1 c') ∧ Lies w' (Fresh w.heap.size w') A' [n] ∧ Below w.heap.size w w'
theorem turned1_at {w0 : World} {n : Tr} {A : Option Addr} {c : Nat} {S : Nat → Prop} (hct : Tree.counts [n] ≤ 1000000) (hl : Lies w0 S A [n]) (hS : ∀ g, S g → g < w0.heap.size) (W : World) (hb : Below w0.heap.size w0 W) :
    Calls Try.prog 12 #[.slice A 1 c] W (RetT1 n W) :=
  (turned_at hct hl hS W hb).mono fun _ _ ⟨A', c', h1, h2, _, _, h5⟩ => ⟨A', c', h1, h2, h5⟩
theorem same1_at {w0 : World} {a b : Tr} {A B : Option Addr} {c d : Nat} {S T : Nat → Prop} (hct : Tree.counts [a] ≤ 1000000) (hs : Tree.sames false [a] [b] = true) (ha : Lies w0 S A [a]) (hS : ∀ g, S g → g < w0.heap.size) (hb : Lies w0 T B [b]) (hT : ∀ g, T g → g < w0.heap.size) :
    Calls Try.prog 11 #[.slice A 1 c, .slice B 1 d, .bool false] w0 fun e w' => e = .returned (.bool true) ∧ Below w0.heap.size w0 w' := by
  have h := same_at (a := [a]) (b := [b]) (c := c) (d := d) hct hs ha hS hb hT
  simpa only [List.length_cons, List.length_nil, Nat.zero_add] using h
theorem slice_one (g o n c k : Nat) (hk : k < n) (hc : n ≤ c) (w : World) :
    (Instr.slice 23 (.slice (some ⟨g, o, none⟩) n c) (some (.int .i64 (k : Int))) (some (.int .i64 ((k : Int) + 1))) none).run Try.prog w = .ok (.slice (some ⟨g, o + k * 4, none⟩) 1 (c - k)) w := by
  have hu : Try.prog.underlying 23 = some (.slice (Try.prog.elem 23)) := by kernel_rfl
  have hs : (sizeOf (Try.prog.elem 23)).run Try.prog w = .ok 4 w := by kernel_rfl
  rw [run_slice_lh w _ (some ⟨g, o, none⟩) n c hu .i64 .i64 (k : Int) ((k : Int) + 1) (by omega) (by omega) (by omega), hs]
  have e1 : ((k : Int) + 1).toNat = k + 1 := by omega
  show Result.ok (sliced (some ⟨g, o, none⟩) (k : Int).toNat ((k : Int) + 1).toNat c 4) w = _
  rw [e1, Int.toNat_natCast]
  unfold sliced
  rw [if_neg (by omega)]
  simp only [Addr.add]
  split
  · rename_i h
    have : k = 0 := by omega
    subst this; simp
  · simp

set_option maxHeartbeats 8000000 in
set_option maxRecDepth 100000 in
theorem treeBack_walk (l : List UInt8) (w : World) (hl : l.length ≤ 9223372036854775807) :
    Calls Try.prog 6 #[.string ⟨l.toArray⟩] w fun e w' => e = .returned (.bool true) ∧ Below w.heap.size w w' := by
  by_cases h1 : 600 < l.length
  · go_enter Try.func6, Try.ntmps6
    go_wp2_with (go_at_call 8; refine (alive_any _).mono ?_; rintro e w1 ⟨rfl, hb⟩)
    go_ret
    exact ⟨rfl, hb⟩
  have g1 : decide ((600 : Int) < (l.length : Int)) = false := by simp; omega
  have hl' : l.length ≤ 600 := by omega
  clear hl h1
  rcases hx : Tree.parse l with ⟨L, a, er⟩
  have hsm := Tree.parse_small hx
  have hcn := hsm.counts
  have HP := Lib.hid (fun w => parse_any l w (by omega))
  rw [hx] at HP
  by_cases he : er = 0
  rotate_left
  · have g3 : (er != 0) = true := by simpa using he
    have hL : L = [] := by
      rcases hr : Tok.lexF l with ⟨T, q, er'⟩
      by_cases he' : er' = 0
      · subst he'
        rw [Tree.lexF_ok hr] at hx
        rcases hw : Tree.row T T.length 0 0 0 [] with ⟨ns, j⟩ | ⟨pb, e2⟩
        · rw [hw] at hx
          injection hx with _ hx; injection hx with _ hx
          exact absurd hx.symm he
        · rw [hw] at hx
          injection hx with hx _
          exact hx.symm
      · rw [Tree.lexF_err hr he'] at hx
        injection hx with hx _
        exact hx.symm
    subst hL
    clear hx he hsm
    go_enter Try.func6, Try.ntmps6
    go_wp2_with fail
    refine (HP.out _).mono ?_
    rintro e w1 ⟨A1, c1, rfl, hl1, hc1, hm1, hb1⟩
    dsimp only [List.length_nil] at hl1 hc1 ⊢
    clear HP
    go_wp2_with (go_at_call 8; refine (alive_any _).mono ?_; rintro e w5 ⟨rfl, hb7⟩)
    go_ret
    exact ⟨rfl, hb1.trans (hb7.mono hb1.size)⟩
  subst he
  obtain ⟨M, hM, hLM, hMl, hlen⟩ := Tree.back_lines hl' hx
  have HSH := Lib.hid (fun i hi => Tree.back_show hl' hx i hi)
  have hML := Tree.sames_len_eq hLM
  have hsh := Tree.Small.shows hsm (by omega)
  have hshM := Tree.sames_show hLM
  have hcM := Tree.sames_counts hLM
  have HPM := Lib.hid (fun w => parse_any (Tree.linesOf L) w (by omega))
  rw [hM] at HPM
  have HLM := Lib.hid hLM
  have HML := Lib.hid hMl
  have HMC := Lib.hid hcM
  have HMS := Lib.hid hshM
  have HMN := Lib.hid hML
  have hctM : Tree.counts M ≤ 1000000 := by omega
  clear hx hM hLM hMl hcM hshM hML hsm
  go_enter Try.func6, Try.ntmps6
  go_wp2_with fail
  refine (HP.out _).mono ?_
  rintro e w1 ⟨A1, c1, rfl, hl1, hc1, hm1, hb1⟩
  dsimp only at hl1 hc1 ⊢
  have s1 := hb1.size
  have HLN := Lib.hid (fun W (hW : Below w1.heap.size w1 W) => lines_any L A1 c1 (Fresh w.heap.size w1) W (lies_below hl1 hW (fun g hg => hg.2)) (fun g hg => Nat.lt_of_lt_of_le hg.2 hW.size) (by omega) (by omega) (by omega))
  clear HP
  go_wp2_with fail
  (with_reducible refine (HLN.out _ (Below.refl _ _)).mono ?_)
  rintro e w2 ⟨rfl, hb2⟩
  have s2 := hb2.size
  go_wp2_with fail
  (with_reducible refine (HPM.out _).mono ?_)
  rintro e w3 ⟨A2, c2, rfl, hl2, hc2, hm2, hb3⟩
  dsimp only at hl2 hc2 ⊢
  have s3 := hb3.size
  have HLNM := Lib.hid (fun W (hW : Below w3.heap.size w3 W) => lines_any M A2 c2 (Fresh w2.heap.size w3) W (lies_below hl2 hW (fun g hg => hg.2)) (fun g hg => Nat.lt_of_lt_of_le hg.2 hW.size) hctM (by rw [← HMS.out]; omega) (by rw [HML.out]; omega))
  rw [HML.out] at HLNM
  have b13 : Below w1.heap.size w1 w3 := hb2.trans (hb3.mono s2)
  have HT1 := Lib.hid (turned_at (c := c1) (by omega) (lies_below hl1 b13 (fun g hg => hg.2)) (fun g hg => Nat.lt_of_lt_of_le hg.2 b13.size))
  have HT2 := Lib.hid (turned_at (c := c2) hctM hl2 (fun g hg => hg.2))
  clear HPM
  go_wp2_with fail
  (with_reducible refine (HT1.out _ (Below.refl _ _)).mono ?_)
  rintro e w4 ⟨A3, c3, rfl, hl3, hc3, hm3, hb4⟩
  have s4 := hb4.size
  clear HT1
  go_wp2_with fail
  (with_reducible refine (HT2.out _ hb4).mono ?_)
  rintro e w5 ⟨A4, c4, rfl, hl4, hc4, hm4, hb5⟩
  have s5 := hb5.size
  have HS := Lib.hid (same_at (c := c3) (d := c4) (by omega) HLM.out (lies_below hl3 hb5 (fun g hg => hg.2)) (fun g hg => Nat.lt_of_lt_of_le hg.2 s5) hl4 (fun g hg => hg.2))
  clear HT2 hl3 hl4
  go_wp2_with fail
  (with_reducible refine HS.out.mono ?_)
  rintro e w6 ⟨rfl, hb6⟩
  have s6 := hb6.size
  have b36 : Below w3.heap.size w3 w6 := (hb4.trans (hb5.mono s4)).trans (hb6.mono (by omega))
  have b16 : Below w1.heap.size w1 w6 := b13.trans (b36.mono b13.size)
  have bw6 : Below w.heap.size w w6 := hb1.trans (b16.mono s1)
  have hl6 := lies_below hl1 b16 (fun g hg => hg.2)
  have hS6 : ∀ g, Fresh w.heap.size w1 g → g < w6.heap.size := fun g hg => Nat.lt_of_lt_of_le hg.2 b16.size
  clear HS hl1 hl2 hb1 hb2 hb3 hb4 hb5 hb6 b13
  go_wp2_with fail
  go_loopw [9] (fun iv wr => ∃ i : Nat, i ≤ L.length ∧ iv = .int .i64 (i : Int) ∧ Below w6.heap.size w6 wr) (fun iv _ => L.length - (intOf iv).toNat)
  case atStart => exact ⟨0, Nat.zero_le _, rfl, Below.refl _ _⟩
  case round =>
    obtain ⟨i, hi, rfl, hbr⟩ := hrel
    by_cases hiL : i < L.length
    · have hlr := lies_below hl6 hbr hS6
      have hSr : ∀ g, Fresh w.heap.size w1 g → g < wr.heap.size := fun g hg => Nat.lt_of_lt_of_le (hS6 g hg) hbr.size
      obtain ⟨g, o, rfl, hg, d0, d1, d2, A', c', d3, hlk, -⟩ := hlr.get i hiL
      have hgr := hSr _ hg
      obtain ⟨n', hn', hsn, hnl⟩ := HSH.out i hiL
      have hcg := Tree.counts_get L i hiL
      have hsl := Tree.show1_len L i hiL
      have hls : Lies wr (Fresh w.heap.size w1) (some ⟨g, o + i * 4, none⟩) [L[i]] := by
        have := (hlr.drop i).take 1
        rw [List.drop_eq_getElem_cons hiL, List.take_succ_cons, List.take_zero] at this
        exact this
      have hi0 : (0 : Int) ≤ (i : Int) := Int.natCast_nonneg _
      have hi1 : (i : Int) < (L.length : Int) := by omega
      have hc1' : (L.length : Int) ≤ (c1 : Int) := by omega
      obtain ⟨nd, hnd⟩ : ∃ nd, L[i] = nd := ⟨_, rfl⟩
      rw [hnd] at d0 d1 d2 d3 hlk hn' hsn hnl hcg hsl hls
      obtain ⟨nk, np, nt, nl⟩ := nd
      dsimp only [Tree.Tr.kind, Tree.Tr.pos, Tree.Tr.text, Tree.Tr.l] at d0 d1 d2 d3 hlk
      have hcl : Tree.counts nl ≤ 1000000 := by rw [Tree.counts, Tree.count, Tree.counts] at hcg; omega
      have HSW : Hid (Calls Try.prog 17 #[.agg #[.int .i64 nk, .int .i64 np, .string ⟨nt.toArray⟩, .slice A' nl.length c']] wr fun e w' => e = .returned (.string ⟨(Tree.show1 (.mk nk np nt nl)).toArray⟩) ∧ Below wr.heap.size wr w') := by
        refine show_of nk np (fun hk => shows_any (Tree.counts nl + 1) nl (by omega) ?_ hcl) nt A' c' _ wr hlk hSr _ rfl (by omega)
        subst hk
        rw [Tree.show1] at hnl
        simp at hnl
        omega
      have HPN := Lib.hid (fun w => parse_any (Tree.show1 (.mk nk np nt nl)) w (by omega))
      rw [hn'] at HPN
      have HSN : Hid (Tree.sames false [n'] [.mk nk np nt nl] = true) := by
        unfold Hid
        rw [Tree.sames, Tree.sames, Bool.and_true]
        exact Tree.same_symm hsn
      have hcn' : Tree.counts [n'] ≤ 1000000 := by rw [Tree.sames_counts HSN.out]; omega
      have hsr : ∀ W, (Instr.slice 23 (.slice (some ⟨g, o, none⟩) L.length c1) (some (.int .i64 (i : Int))) (some (.int .i64 ((i : Int) + 1))) none).run Try.prog W = .ok (.slice (some ⟨g, o + i * 4, none⟩) 1 (c1 - i)) W := slice_one g o L.length c1 i hiL hc1
      have hwi : IntKind.i64.wrap ((i : Int) + 1) = (i : Int) + 1 := IntWalk.i64_in _ (by have := Tree.len_le_counts L; omega)
      clear hn' hnd
      go_wp2_with fail
      (with_reducible refine HSW.out.mono ?_)
      rintro e w7 ⟨rfl, hb7⟩
      have s7 := hb7.size
      clear HSW
      go_wp2_with fail
      (with_reducible refine (HPN.out _).mono ?_)
      rintro e w8 ⟨A8, c8, rfl, hl8, hc8, hm8, hb8⟩
      have s8 := hb8.size
      dsimp only [List.length_cons, List.length_nil] at hl8 hc8 ⊢
      clear HPN
      have HT8 := Lib.hid (turned1_at (c := c8) hcn' hl8 (fun g hg => hg.2))
      have HT9 := Lib.hid (turned1_at (c := c1 - i) (by omega) hls hSr)
      have b8 : Below wr.heap.size wr w8 := hb7.trans (hb8.mono s7)
      clear hl8 hls hlk hlr hb7 hb8
      go_wp2_with fail
      refine wp_region_held_drew (S := fun _ => True) (by kernel_rfl) ?_ (fun hHeld0 => ?_)
      · first | assumption | go_keep
      refine wpAnyH_take (i := 0) (oi := { dst := some 64, op := Go.Op.move (Go.Operand.tmp 12), type := 24, pos := "law.go:106", after := #[], guard := none }) (v := ?v_1_0) rfl (by kernel_rfl) (by kernel_rfl) (by kernel_rfl) (fun _ _ _ h => h) (Or.inl ⟨by rfl, ?hy_1_0⟩) (by assumption) ?rest_1_0
      case hy_1_0 => (intro w hSw; (try dsimp only at hSw); go_simp; (try (with_reducible rfl)))
      (try simp only [Act.put, List.setIfInBounds_toArray, List.set_cons_succ, List.set_cons_zero])
      refine wpAnyH_take (i := 1) (oi := { dst := some 65, op := Go.Op.binOp Go.BinOp.neq 24 (Go.Operand.tmp 64) (Go.Operand.const (Go.Value.int Go.IntKind.i64 0)) 24, type := 4, pos := "law.go:106", after := #[{ on := 0, ground := Go.Ground.data }], guard := none }) (v := ?v_1_1) rfl (by kernel_rfl) (by kernel_rfl) (by kernel_rfl) (fun _ _ _ h => h) (Or.inl ⟨by rfl, ?hy_1_1⟩) (by assumption) ?rest_1_1
      case hy_1_1 => (intro w hSw; (try dsimp only at hSw); go_simp; (try (with_reducible rfl)))
      (try simp only [Act.put, List.setIfInBounds_toArray, List.set_cons_succ, List.set_cons_zero])
      refine wpAnyH_take (i := 2) (oi := { dst := some 66, op := Go.Op.move (Go.Operand.tmp 65), type := 4, pos := "law.go:106", after := #[{ on := 1, ground := Go.Ground.data }], guard := none }) (v := ?v_1_2) rfl (by kernel_rfl) (by kernel_rfl) (by kernel_rfl) (fun _ _ _ h => h) (Or.inl ⟨by rfl, ?hy_1_2⟩) (by assumption) ?rest_1_2
      case hy_1_2 => (intro w hSw; (try dsimp only at hSw); go_simp; (try (with_reducible rfl)))
      (try simp only [Act.put, List.setIfInBounds_toArray, List.set_cons_succ, List.set_cons_zero])
      refine wpAnyH_take (i := 3) (oi := { dst := some 67, op := Go.Op.move (Go.Operand.tmp 10), type := 23, pos := "law.go:106", after := #[{ on := 2, ground := Go.Ground.guard }], guard := some (2, false) }) (v := ?v_1_3) rfl (by kernel_rfl) (by kernel_rfl) (by kernel_rfl) (fun _ _ _ h => h) (Or.inl ⟨by rfl, ?hy_1_3⟩) (by assumption) ?rest_1_3
      case hy_1_3 => (intro w hSw; (try dsimp only at hSw); go_simp; (try (with_reducible rfl)))
      (try simp only [Act.put, List.setIfInBounds_toArray, List.set_cons_succ, List.set_cons_zero])
      refine wpAnyH_take (i := 4) (oi := { dst := some 68, op := Go.Op.call { callee := Go.Callee.builtin Go.Builtin.len, args := #[Go.Operand.tmp 67], argTypes := #[23] }, type := 3, pos := "law.go:106", after := #[{ on := 3, ground := Go.Ground.data }, { on := 2, ground := Go.Ground.guard }], guard := some (2, false) }) (v := ?v_1_4) rfl (by kernel_rfl) (by kernel_rfl) (by kernel_rfl) (fun _ _ _ h => h) (Or.inl ⟨by rfl, ?hy_1_4⟩) (by assumption) ?rest_1_4
      case hy_1_4 => (intro w hSw; (try dsimp only at hSw); go_simp; (try (with_reducible rfl)))
      (try simp only [Act.put, List.setIfInBounds_toArray, List.set_cons_succ, List.set_cons_zero])
      refine wpAnyH_take (i := 5) (oi := { dst := some 69, op := Go.Op.binOp Go.BinOp.neq 3 (Go.Operand.tmp 68) (Go.Operand.const (Go.Value.int Go.IntKind.i64 1)) 3, type := 4, pos := "law.go:106", after := #[{ on := 4, ground := Go.Ground.data }, { on := 2, ground := Go.Ground.guard }], guard := some (2, false) }) (v := ?v_1_5) rfl (by kernel_rfl) (by kernel_rfl) (by kernel_rfl) (fun _ _ _ h => h) (Or.inl ⟨by rfl, ?hy_1_5⟩) (by assumption) ?rest_1_5
      case hy_1_5 => (intro w hSw; (try dsimp only at hSw); go_simp; (try (with_reducible rfl)))
      (try simp only [Act.put, List.setIfInBounds_toArray, List.set_cons_succ, List.set_cons_zero])
      refine wpAnyH_take (i := 6) (oi := { dst := some 70, op := Go.Op.pick (Go.Operand.tmp 66) (Go.Operand.const (Go.Value.bool true)) (Go.Operand.tmp 69), type := 4, pos := "law.go:106", after := #[{ on := 2, ground := Go.Ground.data }, { on := 5, ground := Go.Ground.data }], guard := none }) (v := ?v_1_6) rfl (by kernel_rfl) (by kernel_rfl) (by kernel_rfl) (fun _ _ _ h => h) (Or.inl ⟨by rfl, ?hy_1_6⟩) (by assumption) ?rest_1_6
      case hy_1_6 => (intro w hSw; (try dsimp only at hSw); go_simp; (try (with_reducible rfl)))
      (try simp only [Act.put, List.setIfInBounds_toArray, List.set_cons_succ, List.set_cons_zero])
      refine wpAnyH_take (i := 7) (oi := { dst := some 71, op := Go.Op.move (Go.Operand.tmp 70), type := 4, pos := "law.go:106", after := #[{ on := 6, ground := Go.Ground.data }, { on := 2, ground := Go.Ground.chain }], guard := none }) (v := ?v_1_7) rfl (by kernel_rfl) (by kernel_rfl) (by kernel_rfl) (fun _ _ _ h => h) (Or.inl ⟨by rfl, ?hy_1_7⟩) (by assumption) ?rest_1_7
      case hy_1_7 => (intro w hSw; (try dsimp only at hSw); go_simp; (try (with_reducible rfl)))
      (try simp only [Act.put, List.setIfInBounds_toArray, List.set_cons_succ, List.set_cons_zero])
      refine wpAnyH_take (i := 8) (oi := { dst := some 72, op := Go.Op.move (Go.Operand.tmp 10), type := 23, pos := "law.go:106", after := #[{ on := 7, ground := Go.Ground.guard }], guard := some (7, false) }) (v := ?v_1_8) rfl (by kernel_rfl) (by kernel_rfl) (by kernel_rfl) (fun _ _ _ h => h) (Or.inl ⟨by rfl, ?hy_1_8⟩) (by assumption) ?rest_1_8
      case hy_1_8 => (intro w hSw; (try dsimp only at hSw); go_simp; (try (with_reducible rfl)))
      (try simp only [Act.put, List.setIfInBounds_toArray, List.set_cons_succ, List.set_cons_zero])
      refine wpAnyH_take (i := 10) (oi := { dst := some 74, op := Go.Op.move (Go.Operand.tmp 3), type := 23, pos := "law.go:106", after := #[{ on := 7, ground := Go.Ground.guard }], guard := some (7, false) }) (v := ?v_1_10) rfl (by kernel_rfl) (by kernel_rfl) (by kernel_rfl) (fun _ _ _ h => h) (Or.inl ⟨by rfl, ?hy_1_10⟩) (by assumption) ?rest_1_10
      case hy_1_10 => (intro w hSw; (try dsimp only at hSw); go_simp; (try (with_reducible rfl)))
      (try simp only [Act.put, List.setIfInBounds_toArray, List.set_cons_succ, List.set_cons_zero])
      refine wpAnyH_take (i := 11) (oi := { dst := some 75, op := Go.Op.move (Go.Operand.tmp 9), type := 3, pos := "law.go:106", after := #[{ on := 7, ground := Go.Ground.guard }], guard := some (7, false) }) (v := ?v_1_11) rfl (by kernel_rfl) (by kernel_rfl) (by kernel_rfl) (fun _ _ _ h => h) (Or.inl ⟨by rfl, ?hy_1_11⟩) (by assumption) ?rest_1_11
      case hy_1_11 => (intro w hSw; (try dsimp only at hSw); go_simp; (try (with_reducible rfl)))
      (try simp only [Act.put, List.setIfInBounds_toArray, List.set_cons_succ, List.set_cons_zero])
      refine wpAnyH_take (i := 12) (oi := { dst := some 76, op := Go.Op.move (Go.Operand.tmp 9), type := 3, pos := "law.go:106", after := #[{ on := 7, ground := Go.Ground.guard }], guard := some (7, false) }) (v := ?v_1_12) rfl (by kernel_rfl) (by kernel_rfl) (by kernel_rfl) (fun _ _ _ h => h) (Or.inl ⟨by rfl, ?hy_1_12⟩) (by assumption) ?rest_1_12
      case hy_1_12 => (intro w hSw; (try dsimp only at hSw); go_simp; (try (with_reducible rfl)))
      (try simp only [Act.put, List.setIfInBounds_toArray, List.set_cons_succ, List.set_cons_zero])
      refine wpAnyH_take (i := 13) (oi := { dst := some 77, op := Go.Op.binOp Go.BinOp.add 3 (Go.Operand.tmp 76) (Go.Operand.const (Go.Value.int Go.IntKind.i64 1)) 3, type := 3, pos := "law.go:106", after := #[{ on := 12, ground := Go.Ground.data }, { on := 7, ground := Go.Ground.guard }], guard := some (7, false) }) (v := ?v_1_13) rfl (by kernel_rfl) (by kernel_rfl) (by kernel_rfl) (fun _ _ _ h => h) (Or.inl ⟨by rfl, ?hy_1_13⟩) (by assumption) ?rest_1_13
      case hy_1_13 => (intro w hSw; (try dsimp only at hSw); go_simp; (try (with_reducible rfl)))
      (try simp only [Act.put, List.setIfInBounds_toArray, List.set_cons_succ, List.set_cons_zero])
      refine wpAnyH_take (i := 14) (oi := { dst := some 78, op := Go.Op.slice 23 (Go.Operand.tmp 74) (some (Go.Operand.tmp 75)) (some (Go.Operand.tmp 77)) none, type := 23, pos := "law.go:106", after := #[{ on := 10, ground := Go.Ground.data }, { on := 11, ground := Go.Ground.data }, { on := 13, ground := Go.Ground.data }, { on := 7, ground := Go.Ground.guard }], guard := some (7, false) }) (v := ?v_1_14) rfl (by kernel_rfl) (by kernel_rfl) (by kernel_rfl) (fun _ _ _ h => h) (Or.inl ⟨by rfl, ?hy_1_14⟩) (by assumption) ?rest_1_14
      case hy_1_14 => (intro w hSw; (try dsimp only at hSw); go_simp; (try (with_reducible rfl)))
      (try simp only [Act.put, List.setIfInBounds_toArray, List.set_cons_succ, List.set_cons_zero])
      refine wpAnyH_ready (rs := [9]) (by kernel_rfl) (by simp) ?_
      refine AllReadyH.cons (o := { dst := some 73, op := Go.Op.call { callee := Go.Callee.value (Go.Operand.func 12), args := #[Go.Operand.tmp 72], argTypes := #[23] }, type := 27, pos := "law.go:106", after := #[{ on := 8, ground := Go.Ground.data }, { on := 7, ground := Go.Ground.chain }, { on := 7, ground := Go.Ground.guard }], guard := some (7, false) }) rfl (fun K hK => ?_) AllReadyH.nil
      go_simp
      ((with_reducible refine (HT8.out _ ((Below.refl _ _).drew)).mono ?_); rintro e w9 ⟨A9, c9, rfl, hl9, hb9⟩; have s9 := hb9.size)
      (try dsimp only)
      refine hK.out _ _ ?_ (fun hHeld1 => ?_)
      · first | trivial | ((try dsimp only); first | assumption | trivial | go_keep)
      clear hK K hHeld0
      (try simp only [Act.put, List.setIfInBounds_toArray, List.set_cons_succ, List.set_cons_zero])
      refine wpAnyH_ready (rs := [15]) (by kernel_rfl) (by simp) ?_
      refine AllReadyH.cons (o := { dst := some 79, op := Go.Op.call { callee := Go.Callee.value (Go.Operand.func 12), args := #[Go.Operand.tmp 78], argTypes := #[23] }, type := 27, pos := "law.go:106", after := #[{ on := 14, ground := Go.Ground.data }, { on := 9, ground := Go.Ground.chain }, { on := 7, ground := Go.Ground.guard }], guard := some (7, false) }) rfl (fun K hK => ?_) AllReadyH.nil
      go_simp
      ((with_reducible refine (HT9.out _ (b8.drew.trans (hb9.mono b8.drew.size))).mono ?_); rintro e w10 ⟨A10, c10, rfl, hl10, hb10⟩; have s10 := hb10.size; have HS10 := Lib.hid (same1_at (c := c9) (d := c10) hcn' HSN.out (lies_below hl9 hb10 (fun g hg => hg.2)) (fun g hg => Nat.lt_of_lt_of_le hg.2 s10) hl10 (fun g hg => hg.2)))
      (try dsimp only)
      refine hK.out _ _ ?_ (fun hHeld2 => ?_)
      · first | trivial | ((try dsimp only); first | assumption | trivial | go_keep)
      clear hK K hHeld1
      (try simp only [Act.put, List.setIfInBounds_toArray, List.set_cons_succ, List.set_cons_zero])
      refine wpAnyH_ready (rs := [16]) (by kernel_rfl) (by simp) ?_
      refine AllReadyH.cons (o := { dst := some 80, op := Go.Op.call { callee := Go.Callee.value (Go.Operand.func 11), args := #[Go.Operand.tmp 73, Go.Operand.tmp 79, Go.Operand.const (Go.Value.bool false)], argTypes := #[27, 27, 4] }, type := 4, pos := "law.go:106", after := #[{ on := 9, ground := Go.Ground.data }, { on := 15, ground := Go.Ground.data }, { on := 15, ground := Go.Ground.chain }, { on := 7, ground := Go.Ground.guard }], guard := some (7, false) }) rfl (fun K hK => ?_) AllReadyH.nil
      go_simp
      ((with_reducible refine HS10.out.mono ?_); rintro e w11 ⟨rfl, hb11⟩)
      (try dsimp only)
      refine hK.out _ _ ?_ (fun hHeld3 => ?_)
      · first | trivial | ((try dsimp only); first | assumption | trivial | go_keep)
      clear hK K hHeld2
      (try simp only [Act.put, List.setIfInBounds_toArray, List.set_cons_succ, List.set_cons_zero])
      refine wpAnyH_take (i := 17) (oi := { dst := some 81, op := Go.Op.unOp Go.UnOp.not 4 (Go.Operand.tmp 80), type := 4, pos := "law.go:106", after := #[{ on := 16, ground := Go.Ground.data }, { on := 7, ground := Go.Ground.guard }], guard := some (7, false) }) (v := ?v_1_17) rfl (by kernel_rfl) (by kernel_rfl) (by kernel_rfl) (fun _ _ _ h => h) (Or.inl ⟨by rfl, ?hy_1_17⟩) (by assumption) ?rest_1_17
      case hy_1_17 => (intro w hSw; (try dsimp only at hSw); go_simp; (try (with_reducible rfl)))
      (try simp only [Act.put, List.setIfInBounds_toArray, List.set_cons_succ, List.set_cons_zero])
      refine wpAnyH_take (i := 18) (oi := { dst := some 82, op := Go.Op.pick (Go.Operand.tmp 71) (Go.Operand.const (Go.Value.bool true)) (Go.Operand.tmp 81), type := 4, pos := "law.go:106", after := #[{ on := 7, ground := Go.Ground.data }, { on := 17, ground := Go.Ground.data }], guard := none }) (v := ?v_1_18) rfl (by kernel_rfl) (by kernel_rfl) (by kernel_rfl) (fun _ _ _ h => h) (Or.inl ⟨by rfl, ?hy_1_18⟩) (by assumption) ?rest_1_18
      case hy_1_18 => (intro w hSw; (try dsimp only at hSw); go_simp; (try (with_reducible rfl)))
      (try simp only [Act.put, List.setIfInBounds_toArray, List.set_cons_succ, List.set_cons_zero])
      refine wpAnyH_done (by kernel_rfl) ?_ _
      have hbn : Below w6.heap.size w6 w11 := hbr.trans (((b8.drew.trans (hb9.mono b8.drew.size)).trans (hb10.mono (by have := b8.drew.size; omega))).trans (hb11.mono (by have := b8.drew.size; omega)) |>.mono hbr.size)
      clear HT8 HT9 HS10 hl9 hl10 hb9 hb10 hb11
      go_wp2
      go_roundw
      case rel => exact ⟨i + 1, by omega, by go_num, hbn⟩
      case measure => simp [intOf]; omega
    · have hbr1 : Below w1.heap.size w1 wr := b16.trans (hbr.mono b16.size)
      have hbr3 : Below w3.heap.size w3 wr := b36.trans (hbr.mono b36.size)
      have hbw : Below w.heap.size w wr := bw6.trans (hbr.mono bw6.size)
      clear hl6 hS6 HSH
      go_wp2_with fail
      (with_reducible refine (HLNM.out _ hbr3).mono ?_)
      rintro e w7 ⟨rfl, hb7⟩
      go_wp2_with fail
      (with_reducible refine (HLN.out _ (hbr1.trans (hb7.mono hbr1.size))).mono ?_)
      rintro e w8 ⟨rfl, hb8⟩
      have s7 := hb7.size
      have s8 := hb8.size
      have sw := hbw.size
      have hb9 := (hbw.trans (hb7.mono sw)).trans (hb8.mono (by omega))
      clear HLN HLNM
      go_wp2_with (go_at_call 8; (with_reducible refine (alive_any _).mono ?_); rintro e w5 ⟨rfl, hb10⟩)
      go_ret
      exact ⟨rfl, hb9.trans (hb10.mono hb9.size)⟩
end Go.Proofs.Ytnjhbhbohnjckaa
