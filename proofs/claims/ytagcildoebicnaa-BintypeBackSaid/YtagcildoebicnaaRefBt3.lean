/-
  The reference of layer 10: lists of value types and function types are read.
-/
import Derived.Test.YtagcildoebicnaaRefBt2
import Derived.Test.YtagcildoebicnaaBtGet5
set_option linter.unusedVariables false
set_option linter.unusedSimpArgs false
namespace Go.Proofs.Ytagcildoebicnaa
open Go.RowKit

theorem at_wpList {F : World → Prop} {P : Program} {ops : Array Oper} {Q : Exit → Act → World → Prop} {rest : List Oper} {a : Act} {Wx : World} (hf : F Wx) (h : ∀ w, F w → wpList P ops Q rest a w) : wpList P ops Q rest a Wx := h _ hf
theorem own_alloc_set {w w' : World} {base : Nat} {e : TypeId} {size n : Nat} {v : Value} {xs : List Value} (h : w.ownsRow base e size v n xs) (hk : ∀ k, base ≤ k → k < w.heap.size → w'.heap[k]? = w.heap[k]?) : w'.ownsRow base e size v n xs :=
  own_same h (fun g hg => hk g (h.lt g hg).1 (h.lt g hg).2)

/-- 'append(out, t)' on a list of value types, out a row of the call's own; the element lies in a cell of its own. -/
theorem app_val {ops : Array Oper} {rest : List Oper} {o : Oper} {a : Act} {Q : Exit → Act → World → Prop} (w : World) (y : Int) (hgd : o.guard = none) (s x : Operand)
    (ho : o.op = .call { callee := .builtin .append, args := #[s, x], argTypes := #[74, 74] })
    (base : Nat) (v : Value) (n : Nat) (l : List Int) (hs : a.eval s = v) (hown : w.ownsRow base 23 1 v n (l.map (Value.int .i64)))
    (ad : Addr) (hx : a.eval x = .slice (some ad) 1 1) (hcell : w.cell? ad = some (.int .i64 y)) (hlen : n ≤ 1000000000) (hbase : base ≤ w.heap.size)
    (h : ∀ A' c' w', w'.ownsRow base 23 1 (.slice A' (n + 1) c') (n + 1) ((l ++ [y]).map (Value.int .i64)) → w.grownBy w' v.ownBlock →
      wpList Try.prog ops Q rest (a.put o.dst (.slice A' (n + 1) c')) w') : wpList Try.prog ops Q (o :: rest) a w := by
  obtain ⟨i0, hi0, hz0, hz1, hz2⟩ := info_parts info_val
  have hbl := block_lt_of_cell hcell
  refine wpList_append_any _ hgd s x 74 ho base 23 i0 _ 1 8 Try.underlying74 hi0 hz0 hz1 hz2 rfl (by omega) v n (l.map (Value.int .i64)) hs hown w.heap.size _ 1 1 [.int .i64 y] hx (take_reads w ad _ hcell hbl) (by simp; rfl) (by unfold maxLen; omega) (by omega) hbase ?_
  intro v' w' h1 h2 h3
  obtain ⟨A', c', rfl, _, _⟩ := own_slice h1
  exact h A' c' w' (by simpa using h1) h2

def RVec (A : Option Addr) (n c : Nat) (x : Oct.St × List Int) (w : World) (e : Ending) (w' : World) : Prop :=
  ∃ A1 c1, e = .returned (.tuple #[.agg #[.slice A n c, .int .i64 (x.1.at_ : Int), .int .i64 x.1.err], .slice A1 x.2.length c1]) ∧ RdI w' w'.heap.size A1 x.2 ∧ (0 < x.2.length → ∀ ad, A1 = some ad → w.heap.size ≤ ad.block) ∧ Below w.heap.size w w'
/-- What the reference's loop over the elements keeps. -/
def RVRel (A : Option Addr) (n c : Nat) (b : List UInt8) (s : Oct.St) (goal : Oct.St × List Int) (w : World) (K : Nat) (k left : Nat) (ov : Value) (wr : World) : Prop :=
  ∃ s' l, l.length = k ∧ Var wr w.heap.size #[.slice A n c, .int .i64 (s.at_ : Int), .int .i64 s.err] 35 ∧ Var wr (w.heap.size + 1) #[.slice none 0 0, .int .i64 0, .int .i64 0] 35 ∧
    Var wr K #[.slice A n c, .int .i64 (s'.at_ : Int), .int .i64 s'.err] 35 ∧ wr.ownsRow (K + 1) 23 1 ov k (l.map (Value.int .i64)) ∧ Below w.heap.size w wr ∧ s'.at_ ≤ n ∧
    goal = ((Oct.getN b left s').1, l ++ (Oct.getN b left s').2)
set_option maxHeartbeats 8000000 in
set_option maxRecDepth 100000 in
theorem refGetVals_any (A : Option Addr) (n c : Nat) (b : List UInt8) (s : Oct.St) (w : World) (hn : b.length = n) (hr : RdB w w.heap.size A b) (hle : s.at_ ≤ n) (hc : n ≤ c) (hb6 : n ≤ 1000000) :
    Calls Try.prog 76 #[.agg #[.slice A n c, .int .i64 (s.at_ : Int), .int .i64 s.err]] w (RVec A n c (Oct.getVals b s) w) := by
  have HC := Lib.hid (fun w hr => refCount_any A n c b s w hn hr hle hc hb6 8)
  have HR := Lib.hid hr
  have HG := Lib.hid (fun (s' : Oct.St) (h : s'.at_ ≤ n) w hr => refGetVal_any A n c b s' w hn hr h hc hb6)
  have HAT := Lib.hid (fun (s' : Oct.St) (h : s'.at_ ≤ n) => (show (Oct.getVal b s').1.at_ ≤ n from hn ▸ Oct.getVal_at (by omega)))
  have hcl := count_le b s 8 (by decide)
  have h1t : (Oct.count b s 8).1.at_ ≤ n := hn ▸ Oct.count_at 8 (by omega)
  unfold Oct.getVals
  obtain ⟨⟨s1, m⟩, hy⟩ : ∃ y, Oct.count b s 8 = y := ⟨_, rfl⟩
  rw [hy] at HC hcl h1t ⊢
  dsimp only at hcl h1t ⊢
  clear hy hr
  obtain ⟨m, rfl⟩ := Int.eq_ofNat_of_zero_le hcl.1
  have hm8 : m ≤ 8 := by omega
  clear hcl
  rw [Int.toNat_natCast]
  obtain ⟨goal, hgoal⟩ : ∃ goal, Oct.getN b m s1 = goal := ⟨_, rfl⟩
  rw [hgoal]
  have HGO := Lib.hid hgoal
  clear hgoal hn
  go_enter Try.func76, Try.ntmps76
  go_wp2_with fail
  refine at_world (F := fun w' => Var w' (w.heap.size) #[.slice A n c, .int .i64 (s.at_ : Int), .int .i64 s.err] 35 ∧ Var w' (w.heap.size + 1) #[.slice none 0 0, .int .i64 0, .int .i64 0] 35 ∧ Below w.heap.size w w') ⟨(Var.new w _ _).alloc _, Var.new2 w _ _ _, by go_grown⟩ ?_
  rintro w1 ⟨v_r, v_o, bw⟩
  have sz := bw.size
  refine (HC.out _ ((HR.out.below bw).more bw.size)).mono ?_
  rintro e w2 ⟨rfl, hb⟩
  replace v_r := v_r.below hb v_r.lt
  replace v_o := v_o.below hb v_o.lt
  replace bw := bw.trans (hb.mono bw.size)
  replace sz := bw.size
  clear hb
  have q_r := v_r.cells
  have z_r := v_r.froz
  have l_r := v_r.lt
  have q_o := v_o.cells
  have z_o := v_o.froz
  have l_o := v_o.lt
  dsimp only
  go_wp2_with fail
  go_loopw [6, 7] (fun ov iv wr => ∃ k : Nat, k ≤ m ∧ iv = .int .i64 k ∧ RVRel A n c b s goal w w2.heap.size k (m - k) ov wr) (fun _ iv _ => m - (intOf iv).toNat)
  case atStart => exact ⟨0, by omega, rfl, s1, [], rfl, v_r.alloc _, v_o.alloc _, Var.new _ _ _, World.ownsRow_nil _ _ _ _, by go_grown, h1t, by simp [HGO.out]⟩
  case round =>
    clear q_r q_o z_r z_o v_r v_o bw
    obtain ⟨k, hk, rfl, s', l, hl, v_r, v_o, v_t, hown, bw, hat, hgoal⟩ := hrel
    have HGL := Lib.hid hgoal
    have HL := Lib.hid hl
    clear hgoal hl
    have sz' := bw.size
    have q_r := v_r.cells
    have q_o := v_o.cells
    have q_t := v_t.cells
    have z_r := v_r.froz
    have z_o := v_o.froz
    have z_t := v_t.froz
    have l_t := v_t.lt
    have l_r' := v_r.lt
    have l_o' := v_o.lt
    by_cases hlt : k < m
    · have hat2 := HAT.out s' hat
      obtain ⟨⟨s2, t⟩, hy⟩ : ∃ y, Oct.getVal b s' = y := ⟨_, rfl⟩
      have HCV := Lib.hid (HG.out s' hat wr ((HR.out.below bw).more bw.size))
      have HSTEP : Hid (goal = ((Oct.getN b (m - (k + 1)) s2).1, (l ++ [t]) ++ (Oct.getN b (m - (k + 1)) s2).2)) := by
        unfold Hid
        rw [HGL.out, show m - k = (m - (k + 1)) + 1 by omega]
        simp [Oct.getN, hy]
      rw [hy] at HCV hat2
      dsimp only at hat2
      clear hy
      go_wp2_with fail
      refine HCV.out.mono ?_
      rintro e wa ⟨rfl, hb⟩
      dsimp only
      replace v_r := v_r.below hb v_r.lt
      replace v_o := v_o.below hb v_o.lt
      replace v_t := v_t.below hb v_t.lt
      replace hown := own_below hown hb (Nat.le_refl _)
      replace bw := bw.trans (hb.mono bw.size)
      have hsz := hb.size
      have q_r := v_r.cells
      have q_o := v_o.cells
      have q_t := v_t.cells
      have z_r := v_r.froz
      have z_o := v_o.froz
      have z_t := v_t.froz
      have l_r := v_r.lt
      have l_o := v_o.lt
      have l_t := v_t.lt
      clear hb
      go_wp2_with (at_builtin; (refine at_wpList (F := fun w' => Var w' w.heap.size #[.slice A n c, .int .i64 (s.at_ : Int), .int .i64 s.err] 35 ∧ Var w' (w.heap.size + 1) #[.slice none 0 0, .int .i64 0, .int .i64 0] 35 ∧ Var w' w2.heap.size #[.slice A n c, .int .i64 (s2.at_ : Int), .int .i64 s2.err] 35 ∧ w'.ownsRow (w2.heap.size + 1) 23 1 u6 k (l.map (Value.int .i64)) ∧ w'.cell? ⟨wa.heap.size + 1, 0, none⟩ = some (.int .i64 t) ∧ Below w.heap.size w w' ∧ wa.heap.size ≤ w'.heap.size) ⟨((((v_r.other (by omega) 0 _).other (by omega) 1 _).other (by omega) 2 _).alloc _).alloc _, ((((v_o.other (by omega) 0 _).other (by omega) 1 _).other (by omega) 2 _).alloc _).alloc _, ((((v_t.set 0 _).set 1 _).set 2 _).alloc _).alloc _, ((((ownsRow_setCell_below (ownsRow_setCell_below (ownsRow_setCell_below hown (by dsimp only; omega) _) (by dsimp only; omega) _) (by dsimp only; omega) _).alloc _).alloc _)), (Var.newE2 _ _ #[.int .i64 t] 23 (by simp)).cells 0, by go_grown, by go_size⟩ ?_); rintro wb ⟨v_r, v_o, v_t, hown, hcell, bw, hsz2⟩; (refine app_val wb t rfl (.tmp 26) (.tmp 28) rfl (w2.heap.size + 1) u6 k l rfl hown ⟨wa.heap.size + 1, 0, none⟩ rfl hcell (by omega) (by omega) ?_); intro A3 c3 wc hown3 hg3; have hbw3 := below_own hown hg3 (by omega))
      go_roundw
      case rel =>
        exact ⟨k + 1, by omega, by go_num, s2, l ++ [t], by simp [HL.out], v_r.below hbw3 (by omega), v_o.below hbw3 (by omega), v_t.below hbw3 (by omega), hown3, bw.trans (hbw3.mono (by omega)), hat2, HSTEP.out⟩
      case measure => simp [intOf]; omega
    · have e0 : m - k = 0 := by omega
      rw [e0] at HGL
      have HE : Hid (goal = (s', l)) := by unfold Hid; rw [HGL.out]; simp [Oct.getN]
      have hl := HL.out
      obtain ⟨A1, c1, rfl, hc1, _⟩ := own_slice hown
      (try dsimp only)
      repeat (first | go_values | go_skip | go_guarded | go_step | go_upon)
      refine bodyPost_ret (v := .tuple #[.agg #[.slice A n c, .int .i64 (s'.at_ : Int), .int .i64 s'.err], .slice A1 k c1]) (by simp [results, Try.results76, go_sem, q_o, l_o']) rfl ?_
      rw [HE.out]
      subst hl
      have hown' := own_same (W' := ((wr.setCell ⟨w.heap.size + 1, 0, none⟩ (.slice A n c)).setCell ⟨w.heap.size + 1, 1, none⟩ (.int .i64 (s'.at_ : Int))).setCell ⟨w.heap.size + 1, 2, none⟩ (.int .i64 s'.err)) hown (fun g hg => by
        have := (hown.lt g hg).1
        rw [Below.heap_setCell _ _ _ _ (by dsimp only; omega), Below.heap_setCell _ _ _ _ (by dsimp only; omega), Below.heap_setCell _ _ _ _ (by dsimp only; omega)])
      refine ⟨A1, c1, rfl, Reads.of_own hown', fun hp ad hA => ?_, by go_grown⟩
      obtain ⟨g, cap, hv, hg, _⟩ := hown.form hp
      injection hv with hv
      rw [hA] at hv; injection hv with hv; subst hv
      dsimp only
      omega

def RFun (A : Option Addr) (n c : Nat) (x : Oct.St × List Int × List Int) (w : World) (e : Ending) (w' : World) : Prop :=
  ∃ A1 c1 A2 c2, e = .returned (.tuple #[.agg #[.slice A n c, .int .i64 (x.1.at_ : Int), .int .i64 x.1.err], .agg #[.slice A1 x.2.1.length c1, .slice A2 x.2.2.length c2]]) ∧ RdI w' w'.heap.size A1 x.2.1 ∧ RdI w' w'.heap.size A2 x.2.2 ∧ Below w.heap.size w w'
theorem RdI.none_ (w : World) (B : Nat) : RdI w B none [] := ⟨rfl, fun hn => absurd hn (by decide)⟩
theorem RdI.set {w : World} {B : Nat} {A : Option Addr} {vs : List Int} (h : RdI w B A vs) {K : Nat} (hne : 0 < vs.length → ∀ ad, A = some ad → ad.block ≠ K) (o : Nat) (u : Value) : RdI (w.setCell ⟨K, o, none⟩ u) B A vs := by
  refine ⟨h.1, fun hn => ?_⟩
  obtain ⟨ad, e, hb, hc⟩ := h.2 hn
  exact ⟨ad, e, hb, fun j u' hu => (World.cell?_of_block (Below.heap_setCell _ _ _ _ (by rw [block_of_add]; exact hne hn ad e))).trans (hc j u' hu)⟩
set_option maxHeartbeats 8000000 in
set_option maxRecDepth 100000 in
theorem refGetFunc_any (A : Option Addr) (n c : Nat) (b : List UInt8) (s : Oct.St) (w : World) (hn : b.length = n) (hr : RdB w w.heap.size A b) (hle : s.at_ ≤ n) (hc : n ≤ c) (hb6 : n ≤ 1000000) :
    Calls Try.prog 39 #[.agg #[.slice A n c, .int .i64 (s.at_ : Int), .int .i64 s.err]] w (RFun A n c (Oct.getFunc b s) w) := by
  have HC := Lib.hid (fun w hr => refByte2_any A n c b s w hn hr hle hc hb6)
  have HR := Lib.hid hr
  have h1t := Oct.byte_at (b := b) (s := s) (by omega)
  unfold Oct.getFunc
  dsimp only
  obtain ⟨⟨s1, x⟩, hy⟩ : ∃ y, Oct.byte b s = y := ⟨_, rfl⟩
  rw [hy] at HC h1t ⊢
  dsimp only at h1t ⊢
  clear hy hr
  obtain ⟨s1', hs1'⟩ : ∃ s1', Oct.must s1 (x == 96) 4 = s1' := ⟨_, rfl⟩
  have h2t : s1'.at_ ≤ b.length := by rw [← hs1', Oct.must_at]; exact h1t
  have h3t := Oct.getVals_at h2t
  rw [hs1']
  have HN := Lib.hid (fun w hr => refGetVals_any A n c b s1' w hn hr (by omega) hc hb6)
  obtain ⟨⟨s2, ps⟩, hy⟩ : ∃ y, Oct.getVals b s1' = y := ⟨_, rfl⟩
  rw [hy] at HN h3t ⊢
  dsimp only at h3t ⊢
  clear hy
  have HM := Lib.hid (fun w hr => refGetVals_any A n c b s2 w hn hr (by omega) hc hb6)
  obtain ⟨⟨s3, rs⟩, hy⟩ : ∃ y, Oct.getVals b s2 = y := ⟨_, rfl⟩
  rw [hy] at HM ⊢
  dsimp only
  have HF4 := Lib.hid (fun w => refFail_any A n c s1 4 w)
  have HF : (s1.err = 0 ∧ x = 96 ∧ s1' = s1) ∨ (s1.err = 0 ∧ ¬ x = 96 ∧ s1' = s1.fail 4) ∨ (¬ s1.err = 0 ∧ s1' = s1) := by
    by_cases h1 : s1.err = 0
    · by_cases h2 : x = 96
      · exact .inl ⟨h1, h2, by rw [← hs1', h2]; exact must_no (by simp)⟩
      · have h2' : (x == 96) = false := by simpa using h2
        exact .inr (.inl ⟨h1, h2, by rw [← hs1', h2', must_yes h1]⟩)
    · exact .inr (.inr ⟨h1, by rw [← hs1', must_no (fun hh => h1 hh.1)]⟩)
  clear hs1' h1t h2t h3t hy
  rcases HF with ⟨h1, h2, hs⟩ | ⟨h1, h2, hs⟩ | ⟨h1, hs⟩
  · have g2 : (s1.err == 0) = true := by simpa using h1
    have HS1 : Hid (s1 = s1') := hs.symm
    subst h2
    clear hs h1
    by_cases h3 : s3.err = 0
    · have k2 : (s3.err != 0) = false := by simpa using h3
      rw [if_pos h3]
      clear h3
      go_enter Try.func39, Try.ntmps39
      go_wp2_with fail
      refine at_world (F := fun w' => Var w' (w.heap.size) #[.slice A n c, .int .i64 (s.at_ : Int), .int .i64 s.err] 35 ∧ Var w' (w.heap.size + 1) #[.slice none 0 0, .int .i64 0, .int .i64 0] 35 ∧ Var w' (w.heap.size + 2) #[.slice none 0 0, .slice none 0 0] 76 ∧ Below w.heap.size w w') ⟨((Var.new w _ _).alloc _).alloc _, (Var.new2 w _ _ _).alloc _, Var.new3 w _ _ _ _, by go_grown⟩ ?_
      rintro w1 ⟨v_r, v_o, v_p, bw⟩
      have sz := bw.size
      refine (HC.out _ ((HR.out.below bw).more bw.size)).mono ?_
      rintro e w2 ⟨rfl, hb⟩
      replace v_r := v_r.below hb v_r.lt
      replace v_o := v_o.below hb v_o.lt
      replace v_p := v_p.below hb v_p.lt
      replace bw := bw.trans (hb.mono bw.size)
      replace sz := bw.size
      clear hb
      have q_r := v_r.cells
      have z_r := v_r.froz
      have l_r := v_r.lt
      have q_o := v_o.cells
      have z_o := v_o.froz
      have l_o := v_o.lt
      have q_p := v_p.cells
      have z_p := v_p.froz
      have l_p := v_p.lt
      have d_r_t := v_r.lt
      have d_o_t := v_o.lt
      have d_p_t := v_p.lt
      go_wp2_with fail
      refine at_world (F := fun w' => Var w' (w.heap.size) #[.slice A n c, .int .i64 (s.at_ : Int), .int .i64 s.err] 35 ∧ Var w' (w.heap.size + 1) #[.slice none 0 0, .int .i64 0, .int .i64 0] 35 ∧ Var w' (w.heap.size + 2) #[.slice none 0 0, .slice none 0 0] 76 ∧ Var w' (w2.heap.size) #[.slice A n c, .int .i64 (s1.at_ : Int), .int .i64 s1.err] 35 ∧ Below w.heap.size w w') ⟨(v_r).alloc _, (v_o).alloc _, (v_p).alloc _, Var.newE _ _ _ (by simp), by go_grown⟩ ?_
      clear q_r z_r l_r q_o z_o l_o q_p z_p l_p v_r v_o v_p bw sz
      rintro w3 ⟨v_r, v_o, v_p, v_t, bw⟩
      have sz := bw.size
      rw [HS1.out]
      have lp1 := v_p.lt
      have lo1 := v_o.lt
      have lt1 := v_t.lt
      refine (HN.out _ ((HR.out.below bw).more bw.size)).mono ?_
      rintro e w4 ⟨A1, c1, rfl, L1, N1, hb⟩
      replace v_r := v_r.below hb v_r.lt
      replace v_o := v_o.below hb v_o.lt
      replace v_p := v_p.below hb v_p.lt
      replace v_t := v_t.below hb v_t.lt
      replace bw := bw.trans (hb.mono bw.size)
      replace sz := bw.size
      clear hb
      have q_r := v_r.cells
      have z_r := v_r.froz
      have l_r := v_r.lt
      have q_o := v_o.cells
      have z_o := v_o.froz
      have l_o := v_o.lt
      have q_p := v_p.cells
      have z_p := v_p.froz
      have l_p := v_p.lt
      have q_t := v_t.cells
      have z_t := v_t.froz
      have l_t := v_t.lt
      dsimp only at L1 N1
      have bw1 := bw
      have sz1 := sz
      go_wp2_with fail
      refine at_world (F := fun w' => Var w' (w.heap.size) #[.slice A n c, .int .i64 (s.at_ : Int), .int .i64 s.err] 35 ∧ Var w' (w.heap.size + 1) #[.slice none 0 0, .int .i64 0, .int .i64 0] 35 ∧ Var w' (w.heap.size + 2) #[.slice none 0 0, .slice none 0 0] 76 ∧ Var w' (w2.heap.size) #[.slice A n c, .int .i64 (s2.at_ : Int), .int .i64 s2.err] 35 ∧ RdI w' w4.heap.size A1 ps ∧ w4.heap.size ≤ w'.heap.size ∧ Below w.heap.size w w') ⟨(((v_r).other (by omega) 0 _).other (by omega) 1 _).other (by omega) 2 _, (((v_o).other (by omega) 0 _).other (by omega) 1 _).other (by omega) 2 _, (((v_p).other (by omega) 0 _).other (by omega) 1 _).other (by omega) 2 _, (((v_t).set 0 _).set 1 _).set 2 _, ((L1.set (fun hn ad hA => by have := N1 hn ad hA; omega) 0 _).set (fun hn ad hA => by have := N1 hn ad hA; omega) 1 _).set (fun hn ad hA => by have := N1 hn ad hA; omega) 2 _, by go_size, by go_grown⟩ ?_
      clear q_r z_r l_r q_o z_o l_o q_p z_p l_p q_t z_t l_t v_r v_o v_p v_t bw sz
      rintro w5 ⟨v_r, v_o, v_p, v_t, L1x, s1x, bw⟩
      have sz := bw.size
      have lp2 := v_p.lt
      have lo2 := v_o.lt
      have lt2 := v_t.lt
      refine (HM.out _ ((HR.out.below bw).more bw.size)).mono ?_
      rintro e w6 ⟨A2, c2, rfl, L2, N2, hb⟩
      replace v_r := v_r.below hb v_r.lt
      replace v_o := v_o.below hb v_o.lt
      replace v_p := v_p.below hb v_p.lt
      replace v_t := v_t.below hb v_t.lt
      replace L1x := L1x.below (hb.mono s1x)
      replace s1x := Nat.le_trans s1x hb.size
      replace bw := bw.trans (hb.mono bw.size)
      replace sz := bw.size
      clear hb
      have q_r := v_r.cells
      have z_r := v_r.froz
      have l_r := v_r.lt
      have q_o := v_o.cells
      have z_o := v_o.froz
      have l_o := v_o.lt
      have q_p := v_p.cells
      have z_p := v_p.froz
      have l_p := v_p.lt
      have q_t := v_t.cells
      have z_t := v_t.froz
      have l_t := v_t.lt
      dsimp only at L2 N2
      (try dsimp only)
      repeat (first | go_values | go_skip | go_guarded | go_step | go_upon)
      refine bodyPost_ret (v := .tuple #[.agg #[.slice A n c, .int .i64 (s3.at_ : Int), .int .i64 s3.err], .agg #[.slice A1 ps.length c1, .slice A2 rs.length c2]]) (by simp [results, Try.results39, go_sem, q_r, l_r, q_o, l_o, q_p, l_p, q_t, l_t]) rfl ?_
      exact ⟨A1, c1, A2, c2, rfl, ((((((((L1x.set (fun hn ad hA => by have := N1 hn ad hA; omega) 0 _).set (fun hn ad hA => by have := N1 hn ad hA; omega) 1 _).set (fun hn ad hA => by have := N1 hn ad hA; omega) 2 _).set (fun hn ad hA => by have := N1 hn ad hA; omega) 0 _).set (fun hn ad hA => by have := N1 hn ad hA; omega) 1 _).set (fun hn ad hA => by have := N1 hn ad hA; omega) 2 _).set (fun hn ad hA => by have := N1 hn ad hA; omega) 0 _).set (fun hn ad hA => by have := N1 hn ad hA; omega) 1 _).more (by go_size), ((((((((L2.set (fun hn ad hA => by have := N2 hn ad hA; omega) 0 _).set (fun hn ad hA => by have := N2 hn ad hA; omega) 1 _).set (fun hn ad hA => by have := N2 hn ad hA; omega) 2 _).set (fun hn ad hA => by have := N2 hn ad hA; omega) 0 _).set (fun hn ad hA => by have := N2 hn ad hA; omega) 1 _).set (fun hn ad hA => by have := N2 hn ad hA; omega) 2 _).set (fun hn ad hA => by have := N2 hn ad hA; omega) 0 _).set (fun hn ad hA => by have := N2 hn ad hA; omega) 1 _).more (by go_size), by go_grown⟩
    · have k2 : (s3.err != 0) = true := by simpa using h3
      rw [if_neg h3]
      clear h3
      go_enter Try.func39, Try.ntmps39
      go_wp2_with fail
      refine at_world (F := fun w' => Var w' (w.heap.size) #[.slice A n c, .int .i64 (s.at_ : Int), .int .i64 s.err] 35 ∧ Var w' (w.heap.size + 1) #[.slice none 0 0, .int .i64 0, .int .i64 0] 35 ∧ Var w' (w.heap.size + 2) #[.slice none 0 0, .slice none 0 0] 76 ∧ Below w.heap.size w w') ⟨((Var.new w _ _).alloc _).alloc _, (Var.new2 w _ _ _).alloc _, Var.new3 w _ _ _ _, by go_grown⟩ ?_
      rintro w1 ⟨v_r, v_o, v_p, bw⟩
      have sz := bw.size
      refine (HC.out _ ((HR.out.below bw).more bw.size)).mono ?_
      rintro e w2 ⟨rfl, hb⟩
      replace v_r := v_r.below hb v_r.lt
      replace v_o := v_o.below hb v_o.lt
      replace v_p := v_p.below hb v_p.lt
      replace bw := bw.trans (hb.mono bw.size)
      replace sz := bw.size
      clear hb
      have q_r := v_r.cells
      have z_r := v_r.froz
      have l_r := v_r.lt
      have q_o := v_o.cells
      have z_o := v_o.froz
      have l_o := v_o.lt
      have q_p := v_p.cells
      have z_p := v_p.froz
      have l_p := v_p.lt
      have d_r_t := v_r.lt
      have d_o_t := v_o.lt
      have d_p_t := v_p.lt
      go_wp2_with fail
      refine at_world (F := fun w' => Var w' (w.heap.size) #[.slice A n c, .int .i64 (s.at_ : Int), .int .i64 s.err] 35 ∧ Var w' (w.heap.size + 1) #[.slice none 0 0, .int .i64 0, .int .i64 0] 35 ∧ Var w' (w.heap.size + 2) #[.slice none 0 0, .slice none 0 0] 76 ∧ Var w' (w2.heap.size) #[.slice A n c, .int .i64 (s1.at_ : Int), .int .i64 s1.err] 35 ∧ Below w.heap.size w w') ⟨(v_r).alloc _, (v_o).alloc _, (v_p).alloc _, Var.newE _ _ _ (by simp), by go_grown⟩ ?_
      clear q_r z_r l_r q_o z_o l_o q_p z_p l_p v_r v_o v_p bw sz
      rintro w3 ⟨v_r, v_o, v_p, v_t, bw⟩
      have sz := bw.size
      rw [HS1.out]
      have lp1 := v_p.lt
      have lo1 := v_o.lt
      have lt1 := v_t.lt
      refine (HN.out _ ((HR.out.below bw).more bw.size)).mono ?_
      rintro e w4 ⟨A1, c1, rfl, L1, N1, hb⟩
      replace v_r := v_r.below hb v_r.lt
      replace v_o := v_o.below hb v_o.lt
      replace v_p := v_p.below hb v_p.lt
      replace v_t := v_t.below hb v_t.lt
      replace bw := bw.trans (hb.mono bw.size)
      replace sz := bw.size
      clear hb
      have q_r := v_r.cells
      have z_r := v_r.froz
      have l_r := v_r.lt
      have q_o := v_o.cells
      have z_o := v_o.froz
      have l_o := v_o.lt
      have q_p := v_p.cells
      have z_p := v_p.froz
      have l_p := v_p.lt
      have q_t := v_t.cells
      have z_t := v_t.froz
      have l_t := v_t.lt
      dsimp only at L1 N1
      have bw1 := bw
      have sz1 := sz
      go_wp2_with fail
      refine at_world (F := fun w' => Var w' (w.heap.size) #[.slice A n c, .int .i64 (s.at_ : Int), .int .i64 s.err] 35 ∧ Var w' (w.heap.size + 1) #[.slice none 0 0, .int .i64 0, .int .i64 0] 35 ∧ Var w' (w.heap.size + 2) #[.slice none 0 0, .slice none 0 0] 76 ∧ Var w' (w2.heap.size) #[.slice A n c, .int .i64 (s2.at_ : Int), .int .i64 s2.err] 35 ∧ RdI w' w4.heap.size A1 ps ∧ w4.heap.size ≤ w'.heap.size ∧ Below w.heap.size w w') ⟨(((v_r).other (by omega) 0 _).other (by omega) 1 _).other (by omega) 2 _, (((v_o).other (by omega) 0 _).other (by omega) 1 _).other (by omega) 2 _, (((v_p).other (by omega) 0 _).other (by omega) 1 _).other (by omega) 2 _, (((v_t).set 0 _).set 1 _).set 2 _, ((L1.set (fun hn ad hA => by have := N1 hn ad hA; omega) 0 _).set (fun hn ad hA => by have := N1 hn ad hA; omega) 1 _).set (fun hn ad hA => by have := N1 hn ad hA; omega) 2 _, by go_size, by go_grown⟩ ?_
      clear q_r z_r l_r q_o z_o l_o q_p z_p l_p q_t z_t l_t v_r v_o v_p v_t bw sz
      rintro w5 ⟨v_r, v_o, v_p, v_t, L1x, s1x, bw⟩
      have sz := bw.size
      have lp2 := v_p.lt
      have lo2 := v_o.lt
      have lt2 := v_t.lt
      refine (HM.out _ ((HR.out.below bw).more bw.size)).mono ?_
      rintro e w6 ⟨A2, c2, rfl, L2, N2, hb⟩
      replace v_r := v_r.below hb v_r.lt
      replace v_o := v_o.below hb v_o.lt
      replace v_p := v_p.below hb v_p.lt
      replace v_t := v_t.below hb v_t.lt
      replace L1x := L1x.below (hb.mono s1x)
      replace s1x := Nat.le_trans s1x hb.size
      replace bw := bw.trans (hb.mono bw.size)
      replace sz := bw.size
      clear hb
      have q_r := v_r.cells
      have z_r := v_r.froz
      have l_r := v_r.lt
      have q_o := v_o.cells
      have z_o := v_o.froz
      have l_o := v_o.lt
      have q_p := v_p.cells
      have z_p := v_p.froz
      have l_p := v_p.lt
      have q_t := v_t.cells
      have z_t := v_t.froz
      have l_t := v_t.lt
      dsimp only at L2 N2
      (try dsimp only)
      repeat (first | go_values | go_skip | go_guarded | go_step | go_upon)
      refine bodyPost_ret (v := .tuple #[.agg #[.slice A n c, .int .i64 (s3.at_ : Int), .int .i64 s3.err], .agg #[.slice none 0 0, .slice none 0 0]]) (by simp [results, Try.results39, go_sem, q_r, l_r, q_o, l_o, q_p, l_p, q_t, l_t]) rfl ?_
      exact ⟨none, 0, none, 0, rfl, RdI.none_ _ _, RdI.none_ _ _, by go_grown⟩
  · have g2 : (s1.err == 0) = true := by simpa using h1
    have HS1 : Hid (s1.fail 4 = s1') := hs.symm
    have g3 : (x != 96) = true := by simpa using h2
    clear hs h1 h2
    by_cases h3 : s3.err = 0
    · have k2 : (s3.err != 0) = false := by simpa using h3
      rw [if_pos h3]
      clear h3
      go_enter Try.func39, Try.ntmps39
      go_wp2_with fail
      refine at_world (F := fun w' => Var w' (w.heap.size) #[.slice A n c, .int .i64 (s.at_ : Int), .int .i64 s.err] 35 ∧ Var w' (w.heap.size + 1) #[.slice none 0 0, .int .i64 0, .int .i64 0] 35 ∧ Var w' (w.heap.size + 2) #[.slice none 0 0, .slice none 0 0] 76 ∧ Below w.heap.size w w') ⟨((Var.new w _ _).alloc _).alloc _, (Var.new2 w _ _ _).alloc _, Var.new3 w _ _ _ _, by go_grown⟩ ?_
      rintro w1 ⟨v_r, v_o, v_p, bw⟩
      have sz := bw.size
      refine (HC.out _ ((HR.out.below bw).more bw.size)).mono ?_
      rintro e w2 ⟨rfl, hb⟩
      replace v_r := v_r.below hb v_r.lt
      replace v_o := v_o.below hb v_o.lt
      replace v_p := v_p.below hb v_p.lt
      replace bw := bw.trans (hb.mono bw.size)
      replace sz := bw.size
      clear hb
      have q_r := v_r.cells
      have z_r := v_r.froz
      have l_r := v_r.lt
      have q_o := v_o.cells
      have z_o := v_o.froz
      have l_o := v_o.lt
      have q_p := v_p.cells
      have z_p := v_p.froz
      have l_p := v_p.lt
      have d_r_t := v_r.lt
      have d_o_t := v_o.lt
      have d_p_t := v_p.lt
      go_wp2_with fail
      refine at_world (F := fun w' => Var w' (w.heap.size) #[.slice A n c, .int .i64 (s.at_ : Int), .int .i64 s.err] 35 ∧ Var w' (w.heap.size + 1) #[.slice none 0 0, .int .i64 0, .int .i64 0] 35 ∧ Var w' (w.heap.size + 2) #[.slice none 0 0, .slice none 0 0] 76 ∧ Var w' (w2.heap.size) #[.slice A n c, .int .i64 (s1.at_ : Int), .int .i64 s1.err] 35 ∧ Below w.heap.size w w') ⟨(v_r).alloc _, (v_o).alloc _, (v_p).alloc _, Var.newE _ _ _ (by simp), by go_grown⟩ ?_
      clear q_r z_r l_r q_o z_o l_o q_p z_p l_p v_r v_o v_p bw sz
      rintro w3 ⟨v_r, v_o, v_p, v_t, bw⟩
      have sz := bw.size
      refine (HF4.out _).mono ?_
      rintro e w4 ⟨rfl, hb⟩
      replace v_r := v_r.below hb v_r.lt
      replace v_o := v_o.below hb v_o.lt
      replace v_p := v_p.below hb v_p.lt
      replace v_t := v_t.below hb v_t.lt
      replace bw := bw.trans (hb.mono bw.size)
      replace sz := bw.size
      clear hb
      have q_r := v_r.cells
      have z_r := v_r.froz
      have l_r := v_r.lt
      have q_o := v_o.cells
      have z_o := v_o.froz
      have l_o := v_o.lt
      have q_p := v_p.cells
      have z_p := v_p.froz
      have l_p := v_p.lt
      have q_t := v_t.cells
      have z_t := v_t.froz
      have l_t := v_t.lt
      rw [HS1.out]
      go_wp2_with fail
      refine at_world (F := fun w' => Var w' (w.heap.size) #[.slice A n c, .int .i64 (s.at_ : Int), .int .i64 s.err] 35 ∧ Var w' (w.heap.size + 1) #[.slice none 0 0, .int .i64 0, .int .i64 0] 35 ∧ Var w' (w.heap.size + 2) #[.slice none 0 0, .slice none 0 0] 76 ∧ Var w' (w2.heap.size) #[.slice A n c, .int .i64 (s1'.at_ : Int), .int .i64 s1'.err] 35 ∧ Below w.heap.size w w') ⟨(((v_r).other (by omega) 0 _).other (by omega) 1 _).other (by omega) 2 _, (((v_o).other (by omega) 0 _).other (by omega) 1 _).other (by omega) 2 _, (((v_p).other (by omega) 0 _).other (by omega) 1 _).other (by omega) 2 _, (((v_t).set 0 _).set 1 _).set 2 _, by go_grown⟩ ?_
      clear q_r z_r l_r q_o z_o l_o q_p z_p l_p q_t z_t l_t v_r v_o v_p v_t bw sz
      rintro w5 ⟨v_r, v_o, v_p, v_t, bw⟩
      have sz := bw.size
      have lp1 := v_p.lt
      have lo1 := v_o.lt
      have lt1 := v_t.lt
      refine (HN.out _ ((HR.out.below bw).more bw.size)).mono ?_
      rintro e w6 ⟨A1, c1, rfl, L1, N1, hb⟩
      replace v_r := v_r.below hb v_r.lt
      replace v_o := v_o.below hb v_o.lt
      replace v_p := v_p.below hb v_p.lt
      replace v_t := v_t.below hb v_t.lt
      replace bw := bw.trans (hb.mono bw.size)
      replace sz := bw.size
      clear hb
      have q_r := v_r.cells
      have z_r := v_r.froz
      have l_r := v_r.lt
      have q_o := v_o.cells
      have z_o := v_o.froz
      have l_o := v_o.lt
      have q_p := v_p.cells
      have z_p := v_p.froz
      have l_p := v_p.lt
      have q_t := v_t.cells
      have z_t := v_t.froz
      have l_t := v_t.lt
      dsimp only at L1 N1
      have bw1 := bw
      have sz1 := sz
      go_wp2_with fail
      refine at_world (F := fun w' => Var w' (w.heap.size) #[.slice A n c, .int .i64 (s.at_ : Int), .int .i64 s.err] 35 ∧ Var w' (w.heap.size + 1) #[.slice none 0 0, .int .i64 0, .int .i64 0] 35 ∧ Var w' (w.heap.size + 2) #[.slice none 0 0, .slice none 0 0] 76 ∧ Var w' (w2.heap.size) #[.slice A n c, .int .i64 (s2.at_ : Int), .int .i64 s2.err] 35 ∧ RdI w' w6.heap.size A1 ps ∧ w6.heap.size ≤ w'.heap.size ∧ Below w.heap.size w w') ⟨(((v_r).other (by omega) 0 _).other (by omega) 1 _).other (by omega) 2 _, (((v_o).other (by omega) 0 _).other (by omega) 1 _).other (by omega) 2 _, (((v_p).other (by omega) 0 _).other (by omega) 1 _).other (by omega) 2 _, (((v_t).set 0 _).set 1 _).set 2 _, ((L1.set (fun hn ad hA => by have := N1 hn ad hA; omega) 0 _).set (fun hn ad hA => by have := N1 hn ad hA; omega) 1 _).set (fun hn ad hA => by have := N1 hn ad hA; omega) 2 _, by go_size, by go_grown⟩ ?_
      clear q_r z_r l_r q_o z_o l_o q_p z_p l_p q_t z_t l_t v_r v_o v_p v_t bw sz
      rintro w7 ⟨v_r, v_o, v_p, v_t, L1x, s1x, bw⟩
      have sz := bw.size
      have lp2 := v_p.lt
      have lo2 := v_o.lt
      have lt2 := v_t.lt
      refine (HM.out _ ((HR.out.below bw).more bw.size)).mono ?_
      rintro e w8 ⟨A2, c2, rfl, L2, N2, hb⟩
      replace v_r := v_r.below hb v_r.lt
      replace v_o := v_o.below hb v_o.lt
      replace v_p := v_p.below hb v_p.lt
      replace v_t := v_t.below hb v_t.lt
      replace L1x := L1x.below (hb.mono s1x)
      replace s1x := Nat.le_trans s1x hb.size
      replace bw := bw.trans (hb.mono bw.size)
      replace sz := bw.size
      clear hb
      have q_r := v_r.cells
      have z_r := v_r.froz
      have l_r := v_r.lt
      have q_o := v_o.cells
      have z_o := v_o.froz
      have l_o := v_o.lt
      have q_p := v_p.cells
      have z_p := v_p.froz
      have l_p := v_p.lt
      have q_t := v_t.cells
      have z_t := v_t.froz
      have l_t := v_t.lt
      dsimp only at L2 N2
      (try dsimp only)
      repeat (first | go_values | go_skip | go_guarded | go_step | go_upon)
      refine bodyPost_ret (v := .tuple #[.agg #[.slice A n c, .int .i64 (s3.at_ : Int), .int .i64 s3.err], .agg #[.slice A1 ps.length c1, .slice A2 rs.length c2]]) (by simp [results, Try.results39, go_sem, q_r, l_r, q_o, l_o, q_p, l_p, q_t, l_t]) rfl ?_
      exact ⟨A1, c1, A2, c2, rfl, ((((((((L1x.set (fun hn ad hA => by have := N1 hn ad hA; omega) 0 _).set (fun hn ad hA => by have := N1 hn ad hA; omega) 1 _).set (fun hn ad hA => by have := N1 hn ad hA; omega) 2 _).set (fun hn ad hA => by have := N1 hn ad hA; omega) 0 _).set (fun hn ad hA => by have := N1 hn ad hA; omega) 1 _).set (fun hn ad hA => by have := N1 hn ad hA; omega) 2 _).set (fun hn ad hA => by have := N1 hn ad hA; omega) 0 _).set (fun hn ad hA => by have := N1 hn ad hA; omega) 1 _).more (by go_size), ((((((((L2.set (fun hn ad hA => by have := N2 hn ad hA; omega) 0 _).set (fun hn ad hA => by have := N2 hn ad hA; omega) 1 _).set (fun hn ad hA => by have := N2 hn ad hA; omega) 2 _).set (fun hn ad hA => by have := N2 hn ad hA; omega) 0 _).set (fun hn ad hA => by have := N2 hn ad hA; omega) 1 _).set (fun hn ad hA => by have := N2 hn ad hA; omega) 2 _).set (fun hn ad hA => by have := N2 hn ad hA; omega) 0 _).set (fun hn ad hA => by have := N2 hn ad hA; omega) 1 _).more (by go_size), by go_grown⟩
    · have k2 : (s3.err != 0) = true := by simpa using h3
      rw [if_neg h3]
      clear h3
      go_enter Try.func39, Try.ntmps39
      go_wp2_with fail
      refine at_world (F := fun w' => Var w' (w.heap.size) #[.slice A n c, .int .i64 (s.at_ : Int), .int .i64 s.err] 35 ∧ Var w' (w.heap.size + 1) #[.slice none 0 0, .int .i64 0, .int .i64 0] 35 ∧ Var w' (w.heap.size + 2) #[.slice none 0 0, .slice none 0 0] 76 ∧ Below w.heap.size w w') ⟨((Var.new w _ _).alloc _).alloc _, (Var.new2 w _ _ _).alloc _, Var.new3 w _ _ _ _, by go_grown⟩ ?_
      rintro w1 ⟨v_r, v_o, v_p, bw⟩
      have sz := bw.size
      refine (HC.out _ ((HR.out.below bw).more bw.size)).mono ?_
      rintro e w2 ⟨rfl, hb⟩
      replace v_r := v_r.below hb v_r.lt
      replace v_o := v_o.below hb v_o.lt
      replace v_p := v_p.below hb v_p.lt
      replace bw := bw.trans (hb.mono bw.size)
      replace sz := bw.size
      clear hb
      have q_r := v_r.cells
      have z_r := v_r.froz
      have l_r := v_r.lt
      have q_o := v_o.cells
      have z_o := v_o.froz
      have l_o := v_o.lt
      have q_p := v_p.cells
      have z_p := v_p.froz
      have l_p := v_p.lt
      have d_r_t := v_r.lt
      have d_o_t := v_o.lt
      have d_p_t := v_p.lt
      go_wp2_with fail
      refine at_world (F := fun w' => Var w' (w.heap.size) #[.slice A n c, .int .i64 (s.at_ : Int), .int .i64 s.err] 35 ∧ Var w' (w.heap.size + 1) #[.slice none 0 0, .int .i64 0, .int .i64 0] 35 ∧ Var w' (w.heap.size + 2) #[.slice none 0 0, .slice none 0 0] 76 ∧ Var w' (w2.heap.size) #[.slice A n c, .int .i64 (s1.at_ : Int), .int .i64 s1.err] 35 ∧ Below w.heap.size w w') ⟨(v_r).alloc _, (v_o).alloc _, (v_p).alloc _, Var.newE _ _ _ (by simp), by go_grown⟩ ?_
      clear q_r z_r l_r q_o z_o l_o q_p z_p l_p v_r v_o v_p bw sz
      rintro w3 ⟨v_r, v_o, v_p, v_t, bw⟩
      have sz := bw.size
      refine (HF4.out _).mono ?_
      rintro e w4 ⟨rfl, hb⟩
      replace v_r := v_r.below hb v_r.lt
      replace v_o := v_o.below hb v_o.lt
      replace v_p := v_p.below hb v_p.lt
      replace v_t := v_t.below hb v_t.lt
      replace bw := bw.trans (hb.mono bw.size)
      replace sz := bw.size
      clear hb
      have q_r := v_r.cells
      have z_r := v_r.froz
      have l_r := v_r.lt
      have q_o := v_o.cells
      have z_o := v_o.froz
      have l_o := v_o.lt
      have q_p := v_p.cells
      have z_p := v_p.froz
      have l_p := v_p.lt
      have q_t := v_t.cells
      have z_t := v_t.froz
      have l_t := v_t.lt
      rw [HS1.out]
      go_wp2_with fail
      refine at_world (F := fun w' => Var w' (w.heap.size) #[.slice A n c, .int .i64 (s.at_ : Int), .int .i64 s.err] 35 ∧ Var w' (w.heap.size + 1) #[.slice none 0 0, .int .i64 0, .int .i64 0] 35 ∧ Var w' (w.heap.size + 2) #[.slice none 0 0, .slice none 0 0] 76 ∧ Var w' (w2.heap.size) #[.slice A n c, .int .i64 (s1'.at_ : Int), .int .i64 s1'.err] 35 ∧ Below w.heap.size w w') ⟨(((v_r).other (by omega) 0 _).other (by omega) 1 _).other (by omega) 2 _, (((v_o).other (by omega) 0 _).other (by omega) 1 _).other (by omega) 2 _, (((v_p).other (by omega) 0 _).other (by omega) 1 _).other (by omega) 2 _, (((v_t).set 0 _).set 1 _).set 2 _, by go_grown⟩ ?_
      clear q_r z_r l_r q_o z_o l_o q_p z_p l_p q_t z_t l_t v_r v_o v_p v_t bw sz
      rintro w5 ⟨v_r, v_o, v_p, v_t, bw⟩
      have sz := bw.size
      have lp1 := v_p.lt
      have lo1 := v_o.lt
      have lt1 := v_t.lt
      refine (HN.out _ ((HR.out.below bw).more bw.size)).mono ?_
      rintro e w6 ⟨A1, c1, rfl, L1, N1, hb⟩
      replace v_r := v_r.below hb v_r.lt
      replace v_o := v_o.below hb v_o.lt
      replace v_p := v_p.below hb v_p.lt
      replace v_t := v_t.below hb v_t.lt
      replace bw := bw.trans (hb.mono bw.size)
      replace sz := bw.size
      clear hb
      have q_r := v_r.cells
      have z_r := v_r.froz
      have l_r := v_r.lt
      have q_o := v_o.cells
      have z_o := v_o.froz
      have l_o := v_o.lt
      have q_p := v_p.cells
      have z_p := v_p.froz
      have l_p := v_p.lt
      have q_t := v_t.cells
      have z_t := v_t.froz
      have l_t := v_t.lt
      dsimp only at L1 N1
      have bw1 := bw
      have sz1 := sz
      go_wp2_with fail
      refine at_world (F := fun w' => Var w' (w.heap.size) #[.slice A n c, .int .i64 (s.at_ : Int), .int .i64 s.err] 35 ∧ Var w' (w.heap.size + 1) #[.slice none 0 0, .int .i64 0, .int .i64 0] 35 ∧ Var w' (w.heap.size + 2) #[.slice none 0 0, .slice none 0 0] 76 ∧ Var w' (w2.heap.size) #[.slice A n c, .int .i64 (s2.at_ : Int), .int .i64 s2.err] 35 ∧ RdI w' w6.heap.size A1 ps ∧ w6.heap.size ≤ w'.heap.size ∧ Below w.heap.size w w') ⟨(((v_r).other (by omega) 0 _).other (by omega) 1 _).other (by omega) 2 _, (((v_o).other (by omega) 0 _).other (by omega) 1 _).other (by omega) 2 _, (((v_p).other (by omega) 0 _).other (by omega) 1 _).other (by omega) 2 _, (((v_t).set 0 _).set 1 _).set 2 _, ((L1.set (fun hn ad hA => by have := N1 hn ad hA; omega) 0 _).set (fun hn ad hA => by have := N1 hn ad hA; omega) 1 _).set (fun hn ad hA => by have := N1 hn ad hA; omega) 2 _, by go_size, by go_grown⟩ ?_
      clear q_r z_r l_r q_o z_o l_o q_p z_p l_p q_t z_t l_t v_r v_o v_p v_t bw sz
      rintro w7 ⟨v_r, v_o, v_p, v_t, L1x, s1x, bw⟩
      have sz := bw.size
      have lp2 := v_p.lt
      have lo2 := v_o.lt
      have lt2 := v_t.lt
      refine (HM.out _ ((HR.out.below bw).more bw.size)).mono ?_
      rintro e w8 ⟨A2, c2, rfl, L2, N2, hb⟩
      replace v_r := v_r.below hb v_r.lt
      replace v_o := v_o.below hb v_o.lt
      replace v_p := v_p.below hb v_p.lt
      replace v_t := v_t.below hb v_t.lt
      replace L1x := L1x.below (hb.mono s1x)
      replace s1x := Nat.le_trans s1x hb.size
      replace bw := bw.trans (hb.mono bw.size)
      replace sz := bw.size
      clear hb
      have q_r := v_r.cells
      have z_r := v_r.froz
      have l_r := v_r.lt
      have q_o := v_o.cells
      have z_o := v_o.froz
      have l_o := v_o.lt
      have q_p := v_p.cells
      have z_p := v_p.froz
      have l_p := v_p.lt
      have q_t := v_t.cells
      have z_t := v_t.froz
      have l_t := v_t.lt
      dsimp only at L2 N2
      (try dsimp only)
      repeat (first | go_values | go_skip | go_guarded | go_step | go_upon)
      refine bodyPost_ret (v := .tuple #[.agg #[.slice A n c, .int .i64 (s3.at_ : Int), .int .i64 s3.err], .agg #[.slice none 0 0, .slice none 0 0]]) (by simp [results, Try.results39, go_sem, q_r, l_r, q_o, l_o, q_p, l_p, q_t, l_t]) rfl ?_
      exact ⟨none, 0, none, 0, rfl, RdI.none_ _ _, RdI.none_ _ _, by go_grown⟩
  · have g2 : (s1.err == 0) = false := by simpa using h1
    have HS1 : Hid (s1 = s1') := hs.symm
    clear hs h1
    by_cases h3 : s3.err = 0
    · have k2 : (s3.err != 0) = false := by simpa using h3
      rw [if_pos h3]
      clear h3
      go_enter Try.func39, Try.ntmps39
      go_wp2_with fail
      refine at_world (F := fun w' => Var w' (w.heap.size) #[.slice A n c, .int .i64 (s.at_ : Int), .int .i64 s.err] 35 ∧ Var w' (w.heap.size + 1) #[.slice none 0 0, .int .i64 0, .int .i64 0] 35 ∧ Var w' (w.heap.size + 2) #[.slice none 0 0, .slice none 0 0] 76 ∧ Below w.heap.size w w') ⟨((Var.new w _ _).alloc _).alloc _, (Var.new2 w _ _ _).alloc _, Var.new3 w _ _ _ _, by go_grown⟩ ?_
      rintro w1 ⟨v_r, v_o, v_p, bw⟩
      have sz := bw.size
      refine (HC.out _ ((HR.out.below bw).more bw.size)).mono ?_
      rintro e w2 ⟨rfl, hb⟩
      replace v_r := v_r.below hb v_r.lt
      replace v_o := v_o.below hb v_o.lt
      replace v_p := v_p.below hb v_p.lt
      replace bw := bw.trans (hb.mono bw.size)
      replace sz := bw.size
      clear hb
      have q_r := v_r.cells
      have z_r := v_r.froz
      have l_r := v_r.lt
      have q_o := v_o.cells
      have z_o := v_o.froz
      have l_o := v_o.lt
      have q_p := v_p.cells
      have z_p := v_p.froz
      have l_p := v_p.lt
      have d_r_t := v_r.lt
      have d_o_t := v_o.lt
      have d_p_t := v_p.lt
      go_wp2_with fail
      refine at_world (F := fun w' => Var w' (w.heap.size) #[.slice A n c, .int .i64 (s.at_ : Int), .int .i64 s.err] 35 ∧ Var w' (w.heap.size + 1) #[.slice none 0 0, .int .i64 0, .int .i64 0] 35 ∧ Var w' (w.heap.size + 2) #[.slice none 0 0, .slice none 0 0] 76 ∧ Var w' (w2.heap.size) #[.slice A n c, .int .i64 (s1.at_ : Int), .int .i64 s1.err] 35 ∧ Below w.heap.size w w') ⟨(v_r).alloc _, (v_o).alloc _, (v_p).alloc _, Var.newE _ _ _ (by simp), by go_grown⟩ ?_
      clear q_r z_r l_r q_o z_o l_o q_p z_p l_p v_r v_o v_p bw sz
      rintro w3 ⟨v_r, v_o, v_p, v_t, bw⟩
      have sz := bw.size
      rw [HS1.out]
      have lp1 := v_p.lt
      have lo1 := v_o.lt
      have lt1 := v_t.lt
      refine (HN.out _ ((HR.out.below bw).more bw.size)).mono ?_
      rintro e w4 ⟨A1, c1, rfl, L1, N1, hb⟩
      replace v_r := v_r.below hb v_r.lt
      replace v_o := v_o.below hb v_o.lt
      replace v_p := v_p.below hb v_p.lt
      replace v_t := v_t.below hb v_t.lt
      replace bw := bw.trans (hb.mono bw.size)
      replace sz := bw.size
      clear hb
      have q_r := v_r.cells
      have z_r := v_r.froz
      have l_r := v_r.lt
      have q_o := v_o.cells
      have z_o := v_o.froz
      have l_o := v_o.lt
      have q_p := v_p.cells
      have z_p := v_p.froz
      have l_p := v_p.lt
      have q_t := v_t.cells
      have z_t := v_t.froz
      have l_t := v_t.lt
      dsimp only at L1 N1
      have bw1 := bw
      have sz1 := sz
      go_wp2_with fail
      refine at_world (F := fun w' => Var w' (w.heap.size) #[.slice A n c, .int .i64 (s.at_ : Int), .int .i64 s.err] 35 ∧ Var w' (w.heap.size + 1) #[.slice none 0 0, .int .i64 0, .int .i64 0] 35 ∧ Var w' (w.heap.size + 2) #[.slice none 0 0, .slice none 0 0] 76 ∧ Var w' (w2.heap.size) #[.slice A n c, .int .i64 (s2.at_ : Int), .int .i64 s2.err] 35 ∧ RdI w' w4.heap.size A1 ps ∧ w4.heap.size ≤ w'.heap.size ∧ Below w.heap.size w w') ⟨(((v_r).other (by omega) 0 _).other (by omega) 1 _).other (by omega) 2 _, (((v_o).other (by omega) 0 _).other (by omega) 1 _).other (by omega) 2 _, (((v_p).other (by omega) 0 _).other (by omega) 1 _).other (by omega) 2 _, (((v_t).set 0 _).set 1 _).set 2 _, ((L1.set (fun hn ad hA => by have := N1 hn ad hA; omega) 0 _).set (fun hn ad hA => by have := N1 hn ad hA; omega) 1 _).set (fun hn ad hA => by have := N1 hn ad hA; omega) 2 _, by go_size, by go_grown⟩ ?_
      clear q_r z_r l_r q_o z_o l_o q_p z_p l_p q_t z_t l_t v_r v_o v_p v_t bw sz
      rintro w5 ⟨v_r, v_o, v_p, v_t, L1x, s1x, bw⟩
      have sz := bw.size
      have lp2 := v_p.lt
      have lo2 := v_o.lt
      have lt2 := v_t.lt
      refine (HM.out _ ((HR.out.below bw).more bw.size)).mono ?_
      rintro e w6 ⟨A2, c2, rfl, L2, N2, hb⟩
      replace v_r := v_r.below hb v_r.lt
      replace v_o := v_o.below hb v_o.lt
      replace v_p := v_p.below hb v_p.lt
      replace v_t := v_t.below hb v_t.lt
      replace L1x := L1x.below (hb.mono s1x)
      replace s1x := Nat.le_trans s1x hb.size
      replace bw := bw.trans (hb.mono bw.size)
      replace sz := bw.size
      clear hb
      have q_r := v_r.cells
      have z_r := v_r.froz
      have l_r := v_r.lt
      have q_o := v_o.cells
      have z_o := v_o.froz
      have l_o := v_o.lt
      have q_p := v_p.cells
      have z_p := v_p.froz
      have l_p := v_p.lt
      have q_t := v_t.cells
      have z_t := v_t.froz
      have l_t := v_t.lt
      dsimp only at L2 N2
      (try dsimp only)
      repeat (first | go_values | go_skip | go_guarded | go_step | go_upon)
      refine bodyPost_ret (v := .tuple #[.agg #[.slice A n c, .int .i64 (s3.at_ : Int), .int .i64 s3.err], .agg #[.slice A1 ps.length c1, .slice A2 rs.length c2]]) (by simp [results, Try.results39, go_sem, q_r, l_r, q_o, l_o, q_p, l_p, q_t, l_t]) rfl ?_
      exact ⟨A1, c1, A2, c2, rfl, ((((((((L1x.set (fun hn ad hA => by have := N1 hn ad hA; omega) 0 _).set (fun hn ad hA => by have := N1 hn ad hA; omega) 1 _).set (fun hn ad hA => by have := N1 hn ad hA; omega) 2 _).set (fun hn ad hA => by have := N1 hn ad hA; omega) 0 _).set (fun hn ad hA => by have := N1 hn ad hA; omega) 1 _).set (fun hn ad hA => by have := N1 hn ad hA; omega) 2 _).set (fun hn ad hA => by have := N1 hn ad hA; omega) 0 _).set (fun hn ad hA => by have := N1 hn ad hA; omega) 1 _).more (by go_size), ((((((((L2.set (fun hn ad hA => by have := N2 hn ad hA; omega) 0 _).set (fun hn ad hA => by have := N2 hn ad hA; omega) 1 _).set (fun hn ad hA => by have := N2 hn ad hA; omega) 2 _).set (fun hn ad hA => by have := N2 hn ad hA; omega) 0 _).set (fun hn ad hA => by have := N2 hn ad hA; omega) 1 _).set (fun hn ad hA => by have := N2 hn ad hA; omega) 2 _).set (fun hn ad hA => by have := N2 hn ad hA; omega) 0 _).set (fun hn ad hA => by have := N2 hn ad hA; omega) 1 _).more (by go_size), by go_grown⟩
    · have k2 : (s3.err != 0) = true := by simpa using h3
      rw [if_neg h3]
      clear h3
      go_enter Try.func39, Try.ntmps39
      go_wp2_with fail
      refine at_world (F := fun w' => Var w' (w.heap.size) #[.slice A n c, .int .i64 (s.at_ : Int), .int .i64 s.err] 35 ∧ Var w' (w.heap.size + 1) #[.slice none 0 0, .int .i64 0, .int .i64 0] 35 ∧ Var w' (w.heap.size + 2) #[.slice none 0 0, .slice none 0 0] 76 ∧ Below w.heap.size w w') ⟨((Var.new w _ _).alloc _).alloc _, (Var.new2 w _ _ _).alloc _, Var.new3 w _ _ _ _, by go_grown⟩ ?_
      rintro w1 ⟨v_r, v_o, v_p, bw⟩
      have sz := bw.size
      refine (HC.out _ ((HR.out.below bw).more bw.size)).mono ?_
      rintro e w2 ⟨rfl, hb⟩
      replace v_r := v_r.below hb v_r.lt
      replace v_o := v_o.below hb v_o.lt
      replace v_p := v_p.below hb v_p.lt
      replace bw := bw.trans (hb.mono bw.size)
      replace sz := bw.size
      clear hb
      have q_r := v_r.cells
      have z_r := v_r.froz
      have l_r := v_r.lt
      have q_o := v_o.cells
      have z_o := v_o.froz
      have l_o := v_o.lt
      have q_p := v_p.cells
      have z_p := v_p.froz
      have l_p := v_p.lt
      have d_r_t := v_r.lt
      have d_o_t := v_o.lt
      have d_p_t := v_p.lt
      go_wp2_with fail
      refine at_world (F := fun w' => Var w' (w.heap.size) #[.slice A n c, .int .i64 (s.at_ : Int), .int .i64 s.err] 35 ∧ Var w' (w.heap.size + 1) #[.slice none 0 0, .int .i64 0, .int .i64 0] 35 ∧ Var w' (w.heap.size + 2) #[.slice none 0 0, .slice none 0 0] 76 ∧ Var w' (w2.heap.size) #[.slice A n c, .int .i64 (s1.at_ : Int), .int .i64 s1.err] 35 ∧ Below w.heap.size w w') ⟨(v_r).alloc _, (v_o).alloc _, (v_p).alloc _, Var.newE _ _ _ (by simp), by go_grown⟩ ?_
      clear q_r z_r l_r q_o z_o l_o q_p z_p l_p v_r v_o v_p bw sz
      rintro w3 ⟨v_r, v_o, v_p, v_t, bw⟩
      have sz := bw.size
      rw [HS1.out]
      have lp1 := v_p.lt
      have lo1 := v_o.lt
      have lt1 := v_t.lt
      refine (HN.out _ ((HR.out.below bw).more bw.size)).mono ?_
      rintro e w4 ⟨A1, c1, rfl, L1, N1, hb⟩
      replace v_r := v_r.below hb v_r.lt
      replace v_o := v_o.below hb v_o.lt
      replace v_p := v_p.below hb v_p.lt
      replace v_t := v_t.below hb v_t.lt
      replace bw := bw.trans (hb.mono bw.size)
      replace sz := bw.size
      clear hb
      have q_r := v_r.cells
      have z_r := v_r.froz
      have l_r := v_r.lt
      have q_o := v_o.cells
      have z_o := v_o.froz
      have l_o := v_o.lt
      have q_p := v_p.cells
      have z_p := v_p.froz
      have l_p := v_p.lt
      have q_t := v_t.cells
      have z_t := v_t.froz
      have l_t := v_t.lt
      dsimp only at L1 N1
      have bw1 := bw
      have sz1 := sz
      go_wp2_with fail
      refine at_world (F := fun w' => Var w' (w.heap.size) #[.slice A n c, .int .i64 (s.at_ : Int), .int .i64 s.err] 35 ∧ Var w' (w.heap.size + 1) #[.slice none 0 0, .int .i64 0, .int .i64 0] 35 ∧ Var w' (w.heap.size + 2) #[.slice none 0 0, .slice none 0 0] 76 ∧ Var w' (w2.heap.size) #[.slice A n c, .int .i64 (s2.at_ : Int), .int .i64 s2.err] 35 ∧ RdI w' w4.heap.size A1 ps ∧ w4.heap.size ≤ w'.heap.size ∧ Below w.heap.size w w') ⟨(((v_r).other (by omega) 0 _).other (by omega) 1 _).other (by omega) 2 _, (((v_o).other (by omega) 0 _).other (by omega) 1 _).other (by omega) 2 _, (((v_p).other (by omega) 0 _).other (by omega) 1 _).other (by omega) 2 _, (((v_t).set 0 _).set 1 _).set 2 _, ((L1.set (fun hn ad hA => by have := N1 hn ad hA; omega) 0 _).set (fun hn ad hA => by have := N1 hn ad hA; omega) 1 _).set (fun hn ad hA => by have := N1 hn ad hA; omega) 2 _, by go_size, by go_grown⟩ ?_
      clear q_r z_r l_r q_o z_o l_o q_p z_p l_p q_t z_t l_t v_r v_o v_p v_t bw sz
      rintro w5 ⟨v_r, v_o, v_p, v_t, L1x, s1x, bw⟩
      have sz := bw.size
      have lp2 := v_p.lt
      have lo2 := v_o.lt
      have lt2 := v_t.lt
      refine (HM.out _ ((HR.out.below bw).more bw.size)).mono ?_
      rintro e w6 ⟨A2, c2, rfl, L2, N2, hb⟩
      replace v_r := v_r.below hb v_r.lt
      replace v_o := v_o.below hb v_o.lt
      replace v_p := v_p.below hb v_p.lt
      replace v_t := v_t.below hb v_t.lt
      replace L1x := L1x.below (hb.mono s1x)
      replace s1x := Nat.le_trans s1x hb.size
      replace bw := bw.trans (hb.mono bw.size)
      replace sz := bw.size
      clear hb
      have q_r := v_r.cells
      have z_r := v_r.froz
      have l_r := v_r.lt
      have q_o := v_o.cells
      have z_o := v_o.froz
      have l_o := v_o.lt
      have q_p := v_p.cells
      have z_p := v_p.froz
      have l_p := v_p.lt
      have q_t := v_t.cells
      have z_t := v_t.froz
      have l_t := v_t.lt
      dsimp only at L2 N2
      (try dsimp only)
      repeat (first | go_values | go_skip | go_guarded | go_step | go_upon)
      refine bodyPost_ret (v := .tuple #[.agg #[.slice A n c, .int .i64 (s3.at_ : Int), .int .i64 s3.err], .agg #[.slice none 0 0, .slice none 0 0]]) (by simp [results, Try.results39, go_sem, q_r, l_r, q_o, l_o, q_p, l_p, q_t, l_t]) rfl ?_
      exact ⟨none, 0, none, 0, rfl, RdI.none_ _ _, RdI.none_ _ _, by go_grown⟩
end Go.Proofs.Ytagcildoebicnaa
