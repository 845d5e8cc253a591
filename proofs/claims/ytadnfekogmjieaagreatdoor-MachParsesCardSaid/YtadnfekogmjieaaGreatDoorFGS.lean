/-
  Layer 51, the reference: split, at, number, kind.
  Layer 51, the reference: the state of read.
  Layer 51, the reference: types. (Printed by gen_mt2.py.)
-/
import Derived.Test.YtadnfekogmjieaaGreatDoorFGI
import Derived.Test.YtadnfekogmjieaaGreatDoorFGQ
import Derived.Test.YtadnfekogmjieaaGreatDoorFGH
import Derived.Test.YtadnfekogmjieaaGreatDoorFMQ3
import Derived.Test.YtadnfekogmjieaaGreatDoorFGW
set_option linter.unusedVariables false
set_option linter.unusedSimpArgs false
namespace Go.Proofs.YtadnfekogmjieaaGreatDoor
open Go.RowKit
open Mc (Pl Mi Mf)
attribute [local go_sem] ByteArray.extract_mk
namespace Mc
theorem cutsGo_next (c : UInt8) (f i : Nat) (s : W) (hf : f ≤ i) (hi : i < s.length) (hb : s[i] ≠ c) : cutsGo c ((s.take i).drop f) (s.drop i) = cutsGo c ((s.take (i + 1)).drop f) (s.drop (i + 1)) := by
  rw [List.drop_eq_getElem_cons hi, cutsGo, if_neg hb, List.take_succ_eq_append_getElem hi, List.drop_append_of_le_length (by rw [List.length_take]; omega)]
theorem cutsGo_cut (c : UInt8) (f i : Nat) (s : W) (hi : i < s.length) (hb : s[i] = c) : cutsGo c ((s.take i).drop f) (s.drop i) = (s.take i).drop f :: cutsGo c ((s.take (i + 1)).drop (i + 1)) (s.drop (i + 1)) := by
  rw [List.drop_eq_getElem_cons hi, cutsGo, if_pos hb, show (s.take (i + 1)).drop (i + 1) = [] from List.drop_of_length_le (by rw [List.length_take]; omega)]
end Mc
/-- A row of words that came out of a call. -/
def SpOut (l : List Mc.W) (e : Ending) (w' : World) : Prop := ∃ A c, e = .returned (.slice A l.length c) ∧ RdS w' w'.heap.size A 1 encS l
set_option maxHeartbeats 4000000 in
set_option maxRecDepth 100000 in
/-- split. -/
theorem rsplit_any (s : Mc.W) (b : UInt8) (hs : s.length ≤ 1000000) (w : World) :
    Calls Tryz.prog 50 #[.string ⟨s.toArray⟩, .int .u8 (b.toNat : Int)] w fun e w' => SpOut (Mc.cuts b s) e w' ∧ Below w.heap.size w w' := by
  obtain ⟨i0, hi0, hz0, hz1, hz2⟩ := info_parts info_string
  have hsz : (ByteArray.mk s.toArray).size = s.length := by simp [ByteArray.size]
  obtain ⟨Z, hZ⟩ : ∃ Z, Mc.cuts b s = Z := ⟨_, rfl⟩
  rw [hZ]
  have HZ : Hid (Z = [] ++ Mc.cutsGo b ((s.take 0).drop 0) (s.drop 0)) := Lib.hid (by rw [← hZ]; rfl)
  obtain ⟨n8, hn8⟩ : ∃ n : Nat, b.toNat = n := ⟨_, rfl⟩
  have HN8 := Lib.hid hn8
  rw [hn8]
  clear hZ hn8
  go_enter Tryz.func50, Tryz.ntmps50
  go_wp2
  go_loopw [5, 6, 7] (fun ov fv iv wr => ∃ (i f m : Nat) (A : Option Addr) (c : Nat) (out : List Mc.W), ov = .slice A m c ∧ out.length = m ∧ fv = .int .i64 (f : Int) ∧ iv = .int .i64 (i : Int) ∧ i ≤ s.length + 1 ∧ f ≤ i ∧ m ≤ i ∧ Hid (i = s.length + 1 → Z = out) ∧ Hid (i ≤ s.length → Z = out ++ Mc.cutsGo b ((s.take i).drop f) (s.drop i)) ∧ wr.ownsRow w.heap.size 9 1 (.slice A m c) m (out.flatMap encS) ∧ Below w.heap.size w wr) (fun _ _ iv _ => s.length + 1 - (intOf iv).toNat)
  case atStart => exact ⟨0, 0, 0, none, 0, [], rfl, rfl, rfl, rfl, by omega, by omega, by omega, Lib.hid (fun h => by omega), Lib.hid (fun _ => HZ.out), World.ownsRow_nil _ _ _ _, Below.refl _ _⟩
  case round =>
    clear HZ
    obtain ⟨i, f, m, A, c, out, rfl, hm, rfl, rfl, hi, hf, hmi, HE, HG, hown, hB⟩ := hrel
    by_cases h1 : i = s.length + 1
    · obtain rfl := HE.out h1
      have x0 : ¬ (i : Int) ≤ (s.length : Int) := by omega
      clear HE HG
      go_wp2
      go_ret
      obtain ⟨hc, -⟩ := own_cap hown
      exact ⟨⟨A, c, by rw [hm]; rfl, own_rds encS_len (by omega) hown⟩, hB⟩
    · have hle : i ≤ s.length := by omega
      have hZ := HG.out hle
      have x0 : (i : Int) ≤ (s.length : Int) := by omega
      have x2 : (0 : Int) ≤ (f : Int) := by omega
      have x4 : (f : Int) ≤ (i : Int) := by omega
      by_cases h2 : i = s.length
      · subst h2
        rw [List.drop_length, Mc.cutsGo, List.drop_take] at hZ
        have HT := Lib.hid (hZ)
        have HM := Lib.hid hm
        have HB := Lib.hid hB
        have hsz2 := hB.size
        clear hB HE HG hm
        go_wp2_with (at_builtin; refine app_rs Tryz.underlying116 hi0 hz0 hz1 hz2 rfl (by omega) encS_len encS_one _ rfl (.tmp 25) (.tmp 30) rfl w.heap.size _ m _ (by rfl) (hown.alloc _) [(s.drop f).take (s.length - f)] 1 1 _ rfl (by rfl) (one_str _ _) (by omega) (by omega) (by simp; omega) ?_; intro A' c' w2 hown2 hg; have HB3 := Lib.hid (vals_step hown HB.out hg); clear hg)
        go_roundw
        case rel => exact ⟨s.length + 1, s.length + 1, m + 1, A', c', out ++ [(s.drop f).take (s.length - f)], rfl, by rw [List.length_append, HM.out]; rfl, by go_num, by go_num, by omega, by omega, by omega, Lib.hid (fun _ => HT.out), Lib.hid (fun h => by omega), hown2, HB3.out⟩
        case measure => simp [intOf] <;> omega
      · have hlt : i < s.length := by omega
        have x5 : (i : Int) < (s.length : Int) := by omega
        have x6 : ¬ ((i : Int) = (s.length : Int)) := by omega
        have x7 : (0 : Int) ≤ (i : Int) := by omega
        obtain ⟨nb, hnb⟩ : ∃ n : Nat, s[i].toNat = n := ⟨_, rfl⟩
        have y0 : ∀ h, (((ByteArray.mk s.toArray)[i]'h).toNat : Int) = (nb : Int) := fun h => by show ((s[i]).toNat : Int) = _; omega
        by_cases h3 : s[i] = b
        · rw [Mc.cutsGo_cut b f i s hlt h3, List.drop_take] at hZ
          obtain rfl : nb = n8 := by rw [← hnb, h3]; exact HN8.out
          clear hnb h3
          have HT := Lib.hid (hZ)
          have HM := Lib.hid hm
          have HB := Lib.hid hB
          have hsz2 := hB.size
          clear hB HE HG hm HN8
          go_wp2_with (at_builtin; refine app_rs Tryz.underlying116 hi0 hz0 hz1 hz2 rfl (by omega) encS_len encS_one _ rfl (.tmp 25) (.tmp 30) rfl w.heap.size _ m _ (by rfl) (hown.alloc _) [(s.drop f).take (i - f)] 1 1 _ rfl (by rfl) (one_str _ _) (by omega) (by omega) (by simp; omega) ?_; intro A' c' w2 hown2 hg; have HB3 := Lib.hid (vals_step hown HB.out hg); clear hg)
          go_roundw
          case rel => exact ⟨i + 1, i + 1, m + 1, A', c', out ++ [(s.drop f).take (i - f)], rfl, by rw [List.length_append, HM.out]; rfl, by go_num, by go_num, by omega, by omega, by omega, Lib.hid (fun h => by omega), Lib.hid (fun _ => by rw [HT.out]; simp), hown2, HB3.out⟩
          case measure => simp [intOf] <;> omega
        · rw [Mc.cutsGo_next b f i s hf hlt h3] at hZ
          have y1 : ¬ ((nb : Int) = (n8 : Int)) := fun e => h3 (UInt8.toNat.inj (by rw [hnb, HN8.out]; omega))
          have HT := Lib.hid hZ
          have y2 : ((nb : Int) == (n8 : Int)) = false := by rw [beq_eq_false_iff_ne]; exact y1
          have y3 : ((i : Int) == (s.length : Int)) = false := by rw [beq_eq_false_iff_ne]; exact x6
          clear hnb h3 hZ HE HG HN8
          go_wp2
          go_roundw
          case rel => exact ⟨i + 1, f, m, A, c, out, rfl, hm, rfl, by go_num, by omega, by omega, by omega, Lib.hid (fun h => by omega), Lib.hid (fun _ => HT.out), hown, hB⟩
          case measure => simp [intOf] <;> omega
namespace Mc
theorem cutsGo_len (c : UInt8) (s : W) : ∀ cur : W, (cutsGo c cur s).length ≤ s.length + 1 := by
  induction s with
  | nil => intro cur; simp [cutsGo]
  | cons b s ih =>
    intro cur
    unfold cutsGo
    split
    · have := ih []; simp; omega
    · have := ih (cur ++ [b]); simp; omega
theorem cuts_len (c : UInt8) (s : W) : (cuts c s).length ≤ s.length + 1 := cutsGo_len c s []
theorem cutsGo_word (c : UInt8) (s : W) : ∀ cur : W, ∀ u ∈ cutsGo c cur s, u.length ≤ cur.length + s.length := by
  induction s with
  | nil => intro cur u hu; rw [cutsGo, List.mem_singleton] at hu; rw [hu]; simp
  | cons b s ih =>
    intro cur u hu
    unfold cutsGo at hu
    split at hu
    · rcases List.mem_cons.1 hu with rfl | hu
      · simp
      · have := ih [] u hu; simp at this ⊢; omega
    · have := ih (cur ++ [b]) u hu; simp at this ⊢; omega
theorem cuts_word (c : UInt8) (s : W) : ∀ u ∈ cuts c s, u.length ≤ s.length := fun u hu => by have := cutsGo_word c s [] u hu; simpa using this
end Mc
set_option maxHeartbeats 1000000 in
/-- at. -/
theorem rat_any (A : Option Addr) (n c : Nat) (L : List Mc.W) (hn : L.length = n) (i : Nat) (w : World) (h : RdS w w.heap.size A 1 encS L) :
    Calls Tryz.prog 101 #[.slice A n c, .int .i64 (i : Int)] w fun e w' => e = .returned (.string ⟨(L.getD i []).toArray⟩) ∧ w = w' := by
  subst hn
  by_cases hi : i < L.length
  · obtain ⟨g, o, rfl, hg, h0⟩ := h.get hi
    have f0 := h0 0 _ rfl
    rw [Nat.add_zero, Nat.mul_one] at f0
    have x0 : (i : Int) < (L.length : Int) := by omega
    have x1 : (0 : Int) ≤ (i : Int) := by omega
    have e : L.getD i [] = L[i] := by simp [List.getD_eq_getElem?_getD, hi]
    rw [e]
    obtain ⟨u, hu⟩ : ∃ u, L[i] = u := ⟨_, rfl⟩
    rw [hu] at f0 ⊢
    clear hu h0 h e
    go_enter Tryz.func101, Tryz.ntmps101
    go_wp2
    go_ret
    exact ⟨rfl, rfl⟩
  · have e : L.getD i [] = [] := by simp [List.getD_eq_getElem?_getD, Nat.not_lt.1 hi]
    rw [e]
    have x0 : ¬ (i : Int) < (L.length : Int) := by omega
    clear h e
    go_enter Tryz.func101, Tryz.ntmps101
    go_wp2
    go_ret
    exact ⟨rfl, rfl⟩
set_option maxHeartbeats 1000000 in
/-- number. -/
theorem rnumber_any (s : Mc.W) (hs : s.length ≤ 1000000) (w : World) :
    Calls Tryz.prog 98 #[.string ⟨s.toArray⟩] w fun e w' => e = .returned (.int .u64 (Mc.rnum s)) ∧ Below w.heap.size w w' := by
  unfold Mc.rnum
  have HN := Lib.hid (fun W => rnum_any s 64 W hs)
  obtain ⟨⟨n, z⟩, hr⟩ : ∃ x, Ltr.numF s 64 = x := ⟨_, rfl⟩
  rw [hr] at HN ⊢
  dsimp only
  clear hr
  by_cases hz : z = 0
  · subst hz
    rw [if_pos rfl]
    go_enter Tryz.func98, Tryz.ntmps98
    go_wp2_with (go_at_call 139; refine (HN.out _).mono ?_; rintro e w1 ⟨rfl, q, rfl⟩)
    go_ret
    exact ⟨rfl, below_drewN _ q⟩
  · rw [if_neg hz]
    have hz1 : (z != 0) = true := by simpa using hz
    have hz2 : (z == 0) = false := by simpa using hz
    go_enter Tryz.func98, Tryz.ntmps98
    go_wp2_with (go_at_call 139; refine (HN.out _).mono ?_; rintro e w1 ⟨rfl, q, rfl⟩)
    go_ret
    exact ⟨rfl, below_drewN _ q⟩
namespace Mc
/-- The place of a word among the words. -/
def idxW (s : W) : Nat → List W → Int
  | _, [] => -1
  | i, u :: l => if u = s then (i : Int) else idxW s (i + 1) l
theorem idxW_kind (s : W) : ∀ (l : List Rw) (i : Nat), kindRGo s i l = idxW s i (l.map (·.w))
  | [], i => rfl
  | r :: l, i => by rw [kindRGo, List.map_cons, idxW, idxW_kind s l]
theorem kindR_idx (s : W) : kindR s = idxW s 0 wordsL := idxW_kind s rws 0
end Mc
set_option maxHeartbeats 4000000 in
set_option maxRecDepth 100000 in
/-- kind. -/
theorem rkind_any (s : Mc.W) (w : World) :
    Calls Tryz.prog 99 #[.string ⟨s.toArray⟩] w fun e w' => e = .returned (.int .i64 (Mc.kindR s)) ∧ Below w.heap.size w w' := by
  rw [Mc.kindR_idx]
  obtain ⟨Z, hZ⟩ : ∃ Z, Mc.idxW s 0 Mc.wordsL = Z := ⟨_, rfl⟩
  rw [hZ]
  have HW := Lib.hid (fun W => rwords_any W)
  have hl := Mc.wordsL_len
  obtain ⟨L, hL⟩ : ∃ L, Mc.wordsL = L := ⟨_, rfl⟩
  rw [hL] at hZ hl
  simp only [hL] at HW
  have HZ : Hid (Mc.idxW s 0 (L.drop 0) = Z) := Lib.hid hZ
  clear hZ hL
  go_enter Tryz.func99, Tryz.ntmps99
  go_upto_region 2 with (go_at_call 76; refine (HW.out _).mono ?_; rintro e w1 ⟨⟨A, rfl, hrd⟩, hb⟩)
  refine at_code (F := fun W => RdS W W.heap.size A 1 encS L ∧ Hid (Below w.heap.size w W)) ⟨hrd, Lib.hid hb⟩ ?_
  clear hrd hb HW
  rintro W ⟨hrd, HB⟩
  go_wp2
  go_loopw [4] (fun iv wr => ∃ (i : Nat), iv = .int .i64 (i : Int) ∧ i ≤ L.length ∧ Hid (Mc.idxW s i (L.drop i) = Z) ∧ wr = W) (fun iv _ => L.length - (intOf iv).toNat)
  case atStart => exact ⟨0, rfl, by omega, HZ, rfl⟩
  case round =>
    obtain ⟨i, rfl, hi, hz, rfl⟩ := hrel
    by_cases hia : i < L.length
    · obtain ⟨ga, oa, rfl, hb1, e1⟩ := hrd.get hia
      have f0 := e1 0 _ rfl
      rw [Nat.add_zero, Nat.mul_one] at f0
      have hd : L.drop i = L[i] :: L.drop (i + 1) := List.drop_eq_getElem_cons hia
      obtain ⟨u, hv⟩ : ∃ v, L[i] = v := ⟨_, rfl⟩
      rw [hv] at f0 hd
      have hz2 := hz.out
      rw [hd, Mc.idxW] at hz2
      have x0 : (i : Int) < 24 := by omega
      have x2 : (0 : Int) ≤ (i : Int) := by omega
      have x3 : i < 24 := by omega
      by_cases he : u = s
      · subst he
        rw [if_pos rfl] at hz2
        have HZ2 := Lib.hid hz2
        clear hz hz2 hd hv e1 HZ
        go_wp2
        go_ret
        exact ⟨by rw [← HZ2.out]; rfl, HB.out⟩
      · rw [if_neg he] at hz2
        have HZ2 := Lib.hid hz2
        have hbe := beq_no he
        have hq2 : (u == s) = false := by simpa using he
        clear hz hz2 hd hv e1 he HZ
        go_wp2
        go_roundw
        case rel => exact ⟨i + 1, by go_num, by omega, HZ2, by trivial⟩
        case measure => simp [intOf]; omega
    · have hi2 : i = L.length := by omega
      have x0 : ¬ (i : Int) < 24 := by omega
      have x3 : ¬ i < 24 := by omega
      have hz2 := hz.out
      rw [hi2, List.drop_length, Mc.idxW] at hz2
      have HZ2 := Lib.hid hz2
      clear hz hz2 HZ
      go_wp2
      go_ret
      exact ⟨by rw [← HZ2.out]; rfl, HB.out⟩
end Go.Proofs.YtadnfekogmjieaaGreatDoor
set_option linter.unusedVariables false
set_option linter.unusedSimpArgs false
namespace Go.Proofs.YtadnfekogmjieaaGreatDoor
open Go.RowKit
open Mc (Pl Mi Mf)
/-- A row apart from the one that has grown. -/
theorem own_off {W W' : World} {b1 b2 k1 k2 n1 n2 : Nat} {e1 e2 : TypeId} {v1 v2 : Value} {x1 x2 : List Value} (h1 : W.ownsRow b1 e1 k1 v1 n1 x1) (h2 : W.ownsRow b2 e2 k2 v2 n2 x2) (ha : ∀ j, v1.ownBlock = some j → v2.ownBlock ≠ some j) (hg : W.grownBy W' v1.ownBlock) : W'.ownsRow b2 e2 k2 v2 n2 x2 := by
  cases hb : v1.ownBlock with
  | none =>
    rw [hb] at hg
    refine h2.kept hg ?_
    cases hv : v2.ownBlock with
    | none => exact .inl rfl
    | some j => exact .inr (by simp)
  | some j => rw [hb] at hg; exact h2.kept hg (.inr (ha j hb))
theorem RdS.offOwn {α : Type} {enc : α → List Value} {w w' : World} {B k : Nat} {A : Option Addr} {l : List α} (h : RdS w B A k enc l) {v : Value} (hv : ∀ j, v.ownBlock = some j → B ≤ j) (hg : w.grownBy w' v.ownBlock) : RdS w' B A k enc l := fun hl => by
  obtain ⟨g, o, e, hb, hc⟩ := h hl
  exact ⟨g, o, e, hb, fun i hi j u hj => hg.cell (hc i hi j u hj) (fun e => by have := hv g e.symm; omega)⟩
theorem RdS.offBlock {α : Type} {enc : α → List Value} {w w' : World} {B k K : Nat} {A : Option Addr} {l : List α} (h : RdS w B A k enc l) (hv : B ≤ K) (hg : w.grownBy w' (some K)) : RdS w' B A k enc l := fun hl => by
  obtain ⟨g, o, e, hb, hc⟩ := h hl
  exact ⟨g, o, e, hb, fun i hi j u hj => hg.cell (hc i hi j u hj) (fun e => by injection e with e; dsimp only at e; omega)⟩
theorem RdS.lowB {α : Type} {enc : α → List Value} {w w' : World} {B k : Nat} {A : Option Addr} {l : List α} (h : RdS w B A k enc l) (hs : B ≤ w.heap.size) (hb : Below w.heap.size w w') : RdS w' B A k enc l := fun hl => by
  obtain ⟨g, o, e, hgb, hc⟩ := h hl
  exact ⟨g, o, e, hgb, fun i hi j u hj => (hb.cell (show g < w.heap.size by omega)).trans (hc i hi j u hj)⟩
theorem own_rdp {W : World} {base n c N : Nat} {A : Option Addr} {l : List Pl} (h : W.ownsRow base 64 2 (.slice A n c) n (l.flatMap encPl)) (hN : N ≤ base) : RdP W (fun g => N ≤ g) A l := fun hl => by
  obtain ⟨g, o, e, hb, hc⟩ := own_rds encPl_len (by omega) h hl
  refine ⟨g, o, e, by subst e; exact Nat.le_trans hN (h.lt g rfl).1, hb, fun i hi => ⟨hc i hi 0 _ rfl, hc i hi 1 _ rfl⟩⟩
/-- The state of the reference's read: the result's cell, the words, the instruction so far. -/
structure NSt (w W : World) (K1 Kx : Nat) (Aw : Option Addr) (L : List Mc.W) (x : Mi) (A : Option Addr) (c : Nat) (B : Option Addr) (d : Nat) (T : Option Addr) (e : Nat) : Prop where
  bel : Below w.heap.size w W
  res : Var W K1 zeroMi 61
  wl : RdS W Kx Aw 1 encS L
  cur : Var W Kx (miV x A c B d T e) 61
  oD : W.ownsRow (Kx + 1) 64 2 (.slice A x.d.length c) x.d.length (x.d.flatMap encPl)
  oS : W.ownsRow (Kx + 1) 64 2 (.slice B x.s.length d) x.s.length (x.s.flatMap encPl)
  oT : W.ownsRow (Kx + 1) 3 1 (.slice T x.tos.length e) x.tos.length (x.tos.flatMap encZ)
  ap : ∀ j, (Value.slice A x.d.length c).ownBlock = some j → (Value.slice B x.s.length d).ownBlock ≠ some j
  lo : w.heap.size ≤ K1
  l1 : K1 < Kx
def NEx (w W : World) (K1 Kx : Nat) (Aw : Option Addr) (L : List Mc.W) (x : Mi) : Prop := ∃ A c B d T e, NSt w W K1 Kx Aw L x A c B d T e
section
variable {w W W' : World} {K1 Kx : Nat} {Aw : Option Addr} {L : List Mc.W} {x : Mi} {A B T : Option Addr} {c d e : Nat}
theorem NSt.ex (S : NSt w W K1 Kx Aw L x A c B d T e) : NEx w W K1 Kx Aw L x := ⟨A, c, B, d, T, e, S⟩
theorem NSt.ltx (S : NSt w W K1 Kx Aw L x A c B d T e) : Kx < W.heap.size := S.cur.lt
theorem NSt.below (S : NSt w W K1 Kx Aw L x A c B d T e) (hb : Below W.heap.size W W') : NSt w W' K1 Kx Aw L x A c B d T e := by
  have hx := S.ltx
  obtain ⟨h1, h2, h3, h4, h5, h6, h7, h8, h9, h10⟩ := S
  exact ⟨h1.trans (hb.mono h1.size), var_keep h2 hb, h3.lowB (by omega) hb, var_keep h4 hb, own_belowW h5 hb, own_belowW h6 hb, own_belowW h7 hb, h8, h9, h10⟩
theorem NSt.word (S : NSt w W K1 Kx Aw L x A c B d T e) (hx : Kx ≤ W.heap.size) : RdS W W.heap.size Aw 1 encS L := S.wl.more hx
theorem NSt.set (S : NSt w W K1 Kx Aw L x A c B d T e) (i : Nat) (u : Value) {y : Mi} (hy : (miV x A c B d T e).setIfInBounds i u = miV y A c B d T e) (hd : y.d = x.d) (hs : y.s = x.s) (he : y.tos = x.tos) : NSt w (W.setCell ⟨Kx, i, none⟩ u) K1 Kx Aw L y A c B d T e := by
  have hg := grown_set W Kx i u
  have hv := S.cur.set i u
  rw [hy] at hv
  obtain ⟨h1, h2, h3, -, h5, h6, h7, h8, h9, h10⟩ := S
  exact ⟨h1.setCell (p := ⟨Kx, i, none⟩) (by show w.heap.size ≤ Kx; omega) u, var_stay h2 hg (by omega), h3.offBlock (Nat.le_refl _) hg, hv, by rw [hd]; exact own_stay h5 hg (by omega), by rw [hs]; exact own_stay h6 hg (by omega), by rw [he]; exact own_stay h7 hg (by omega), by rw [hd, hs]; exact h8, h9, h10⟩
theorem NSt.setOp (S : NSt w W K1 Kx Aw L x A c B d T e) (z : Int) : NSt w (W.setCell ⟨Kx, 1, none⟩ (.int .i64 z)) K1 Kx Aw L ⟨x.kind, z, x.a, x.b, x.n, x.d, x.s, x.tos, x.trap⟩ A c B d T e := S.set 1 _ (by simp [miV]) rfl rfl rfl
theorem NSt.setA (S : NSt w W K1 Kx Aw L x A c B d T e) (z : Int) : NSt w (W.setCell ⟨Kx, 2, none⟩ (.int .i64 z)) K1 Kx Aw L ⟨x.kind, x.op, z, x.b, x.n, x.d, x.s, x.tos, x.trap⟩ A c B d T e := S.set 2 _ (by simp [miV]) rfl rfl rfl
theorem NSt.setB (S : NSt w W K1 Kx Aw L x A c B d T e) (z : Int) : NSt w (W.setCell ⟨Kx, 3, none⟩ (.int .i64 z)) K1 Kx Aw L ⟨x.kind, x.op, x.a, z, x.n, x.d, x.s, x.tos, x.trap⟩ A c B d T e := S.set 3 _ (by simp [miV]) rfl rfl rfl
theorem NSt.setN (S : NSt w W K1 Kx Aw L x A c B d T e) (z : Nat) : NSt w (W.setCell ⟨Kx, 4, none⟩ (.int .u64 (z : Int))) K1 Kx Aw L ⟨x.kind, x.op, x.a, x.b, z, x.d, x.s, x.tos, x.trap⟩ A c B d T e := S.set 4 _ (by simp [miV]) rfl rfl rfl
theorem NSt.setTrap (S : NSt w W K1 Kx Aw L x A c B d T e) (z : Int) : NSt w (W.setCell ⟨Kx, 8, none⟩ (.int .i64 z)) K1 Kx Aw L ⟨x.kind, x.op, x.a, x.b, x.n, x.d, x.s, x.tos, z⟩ A c B d T e := S.set 8 _ (by simp [miV]) rfl rfl rfl
/-- A destination appended, and the slice stored. -/
theorem NSt.appD (S : NSt w W K1 Kx Aw L x A c B d T e) {p : Pl} {n : Nat} {A' : Option Addr} {c' : Nat} (hn : n = x.d.length + 1) (own : W'.ownsRow (Kx + 1) 64 2 (.slice A' n c') n ((x.d ++ [p]).flatMap encPl)) (hg : W.grownBy W' (Value.slice A x.d.length c).ownBlock) (hob : (Value.slice A' n c').ownBlock = (Value.slice A x.d.length c).ownBlock ∨ (Value.slice A' n c').ownBlock = some W.heap.size) :
    NSt w (W'.setCell ⟨Kx, 5, none⟩ (.slice A' n c')) K1 Kx Aw L ⟨x.kind, x.op, x.a, x.b, x.n, x.d ++ [p], x.s, x.tos, x.trap⟩ A' c' B d T e := by
  subst hn
  have hlen : (x.d ++ [p]).length = x.d.length + 1 := by simp
  obtain ⟨h1, h2, h3, h4, h5, h6, h7, h8, h9, h10⟩ := S
  have hge : ∀ j, (Value.slice A x.d.length c).ownBlock = some j → Kx + 1 ≤ j := fun j hj => (h5.lt j hj).1
  have hsl : ∀ j, (Value.slice B x.s.length d).ownBlock = some j → j < W.heap.size := fun j hj => (h6.lt j hj).2
  have gs := grown_set W' Kx 5 (.slice A' (x.d.length + 1) c')
  have hs := (var_grown h4 h5 (by decide) hg).set 5 (.slice A' (x.d.length + 1) c')
  refine ⟨(h1.grown hg h1.size (fun j hj => by have := hge j hj; omega)).setCell (p := ⟨Kx, 5, none⟩) (by show w.heap.size ≤ Kx; omega) _, var_stay (var_grown h2 h5 (by decide) hg) gs (by omega), (h3.offOwn (fun j hj => by have := hge j hj; omega) hg).offBlock (Nat.le_refl _) gs, ?_, by rw [hlen]; exact own_stay own gs (by omega), own_stay (own_off h5 h6 h8 hg) gs (by omega), own_stay (own_two h5 h7 (by decide) hg) gs (by omega), ?_, h9, h10⟩
  · rw [show miV ⟨x.kind, x.op, x.a, x.b, x.n, x.d ++ [p], x.s, x.tos, x.trap⟩ A' c' B d T e = (miV x A c B d T e).setIfInBounds 5 (.slice A' (x.d.length + 1) c') by simp [miV]]; exact hs
  · dsimp only
    rw [hlen]
    intro j hj hk
    rcases hob with e | e
    · exact h8 j (e ▸ hj) hk
    · rw [e] at hj; injection hj with hj
      have := hsl j hk; omega
/-- A source appended, and the slice stored. -/
theorem NSt.appS (S : NSt w W K1 Kx Aw L x A c B d T e) {p : Pl} {n : Nat} {B' : Option Addr} {d' : Nat} (hn : n = x.s.length + 1) (own : W'.ownsRow (Kx + 1) 64 2 (.slice B' n d') n ((x.s ++ [p]).flatMap encPl)) (hg : W.grownBy W' (Value.slice B x.s.length d).ownBlock) (hob : (Value.slice B' n d').ownBlock = (Value.slice B x.s.length d).ownBlock ∨ (Value.slice B' n d').ownBlock = some W.heap.size) :
    NSt w (W'.setCell ⟨Kx, 6, none⟩ (.slice B' n d')) K1 Kx Aw L ⟨x.kind, x.op, x.a, x.b, x.n, x.d, x.s ++ [p], x.tos, x.trap⟩ A c B' d' T e := by
  subst hn
  have hlen : (x.s ++ [p]).length = x.s.length + 1 := by simp
  obtain ⟨h1, h2, h3, h4, h5, h6, h7, h8, h9, h10⟩ := S
  have hge : ∀ j, (Value.slice B x.s.length d).ownBlock = some j → Kx + 1 ≤ j := fun j hj => (h6.lt j hj).1
  have hsl : ∀ j, (Value.slice A x.d.length c).ownBlock = some j → j < W.heap.size := fun j hj => (h5.lt j hj).2
  have gs := grown_set W' Kx 6 (.slice B' (x.s.length + 1) d')
  have hs := (var_grown h4 h6 (by decide) hg).set 6 (.slice B' (x.s.length + 1) d')
  have h8' : ∀ j, (Value.slice B x.s.length d).ownBlock = some j → (Value.slice A x.d.length c).ownBlock ≠ some j := fun j hj hk => h8 j hk hj
  refine ⟨(h1.grown hg h1.size (fun j hj => by have := hge j hj; omega)).setCell (p := ⟨Kx, 6, none⟩) (by show w.heap.size ≤ Kx; omega) _, var_stay (var_grown h2 h6 (by decide) hg) gs (by omega), (h3.offOwn (fun j hj => by have := hge j hj; omega) hg).offBlock (Nat.le_refl _) gs, ?_, own_stay (own_off h6 h5 h8' hg) gs (by omega), by rw [hlen]; exact own_stay own gs (by omega), own_stay (own_two h6 h7 (by decide) hg) gs (by omega), ?_, h9, h10⟩
  · rw [show miV ⟨x.kind, x.op, x.a, x.b, x.n, x.d, x.s ++ [p], x.tos, x.trap⟩ A c B' d' T e = (miV x A c B d T e).setIfInBounds 6 (.slice B' (x.s.length + 1) d') by simp [miV]]; exact hs
  · dsimp only
    rw [hlen]
    intro j hj hk
    rcases hob with e | e
    · exact h8 j hj (e ▸ hk)
    · rw [e] at hk; injection hk with hk
      have := hsl j hj; omega
/-- A target appended, and the slice stored. -/
theorem NSt.appT (S : NSt w W K1 Kx Aw L x A c B d T e) {z : Int} {n : Nat} {T' : Option Addr} {e' : Nat} (hn : n = x.tos.length + 1) (own : W'.ownsRow (Kx + 1) 3 1 (.slice T' n e') n ((x.tos ++ [z]).flatMap encZ)) (hg : W.grownBy W' (Value.slice T x.tos.length e).ownBlock) :
    NSt w (W'.setCell ⟨Kx, 7, none⟩ (.slice T' n e')) K1 Kx Aw L ⟨x.kind, x.op, x.a, x.b, x.n, x.d, x.s, x.tos ++ [z], x.trap⟩ A c B d T' e' := by
  subst hn
  have hlen : (x.tos ++ [z]).length = x.tos.length + 1 := by simp
  obtain ⟨h1, h2, h3, h4, h5, h6, h7, h8, h9, h10⟩ := S
  have hge : ∀ j, (Value.slice T x.tos.length e).ownBlock = some j → Kx + 1 ≤ j := fun j hj => (h7.lt j hj).1
  have gs := grown_set W' Kx 7 (.slice T' (x.tos.length + 1) e')
  have hs := (var_grown h4 h7 (by decide) hg).set 7 (.slice T' (x.tos.length + 1) e')
  refine ⟨(h1.grown hg h1.size (fun j hj => by have := hge j hj; omega)).setCell (p := ⟨Kx, 7, none⟩) (by show w.heap.size ≤ Kx; omega) _, var_stay (var_grown h2 h7 (by decide) hg) gs (by omega), (h3.offOwn (fun j hj => by have := hge j hj; omega) hg).offBlock (Nat.le_refl _) gs, ?_, own_stay (own_two h7 h5 (by decide) hg) gs (by omega), own_stay (own_two h7 h6 (by decide) hg) gs (by omega), by rw [hlen]; exact own_stay own gs (by omega), h8, h9, h10⟩
  rw [show miV ⟨x.kind, x.op, x.a, x.b, x.n, x.d, x.s, x.tos ++ [z], x.trap⟩ A c B d T' e' = (miV x A c B d T e).setIfInBounds 7 (.slice T' (x.tos.length + 1) e') by simp [miV]]; exact hs
theorem NSt.rdi (S : NSt w W K1 Kx Aw L x A c B d T e) {N : Nat} (hN : N ≤ Kx + 1) : MiRd (fun g => N ≤ g) W x A B T :=
  ⟨own_rdp S.oD hN, own_rdp S.oS hN, own_rdzS S.oT hN⟩
/-- The instruction read again behind the store to the result's cell. -/
theorem NSt.fin (S : NSt w W K1 Kx Aw L x A c B d T e) (cs : Array Value) (hk : K1 = w.heap.size) : Below w.heap.size w (W.setRow K1 cs) ∧ MiRd (fun g => w.heap.size ≤ g) (W.setRow K1 cs) x A B T := by
  have hg := setRow_grown W K1 cs
  have l1 := S.l1
  have lo := S.lo
  exact ⟨below_grown S.bel hg S.bel.size S.lo, own_rdp (own_stay S.oD hg (by omega)) (by omega), own_rdp (own_stay S.oS hg (by omega)) (by omega), own_rdzS (own_stay S.oT hg (by omega)) (by omega)⟩
end
end Go.Proofs.YtadnfekogmjieaaGreatDoor
set_option linter.unusedVariables false
set_option linter.unusedSimpArgs false
namespace Go.Proofs.YtadnfekogmjieaaGreatDoor
open Go.RowKit
open Mc (Pl Mi Mf)
attribute [local go_sem] ByteArray.extract_mk
def strLen : Value → Nat
  | .string s => s.size
  | _ => 0
namespace Mc
/-- One round of the strip. -/
theorem strip_ways (u : W) : (u = [] ∧ stripF u.length u = u) ∨ ∃ (n nb lb : Nat), u.length = n + 1 ∧ (∀ h, (u[0]'h).toNat = nb) ∧ (∀ h, (u[n]'h).toNat = lb) ∧
    ((nb = 40 ∧ stripF u.length u = stripF u.tail.length u.tail) ∨ (nb ≠ 40 ∧ (lb = 44 ∨ lb = 41) ∧ stripF u.length u = stripF u.dropLast.length u.dropLast) ∨ (nb ≠ 40 ∧ lb ≠ 44 ∧ lb ≠ 41 ∧ stripF u.length u = u)) := by
  rcases u with _ | ⟨b, t⟩
  · exact .inl ⟨rfl, rfl⟩
  · right
    refine ⟨t.length, b.toNat, ((b :: t)[t.length]).toNat, by simp, fun h => rfl, fun h => rfl, ?_⟩
    have hl : (b :: t).getLast? = some ((b :: t)[t.length]) := by rw [List.getLast?_eq_getElem?]; simp
    have e1 : ∀ (x : UInt8) (k : Nat), k < 256 → (x.toNat = k ↔ x = UInt8.ofNat k) := fun x k hk => by
      constructor
      · intro h; apply UInt8.toNat.inj; rw [h, UInt8.toNat_ofNat']; omega
      · intro h; rw [h, UInt8.toNat_ofNat']; omega
    have hs : stripF (b :: t).length (b :: t) = if (b :: t).head? = some 40 then stripF t.length t else if (b :: t).getLast? = some 44 ∨ (b :: t).getLast? = some 41 then stripF t.length (b :: t).dropLast else b :: t := rfl
    rw [hs, hl]
    generalize (b :: t)[t.length] = l
    by_cases h0 : b = 40
    · left
      subst h0
      exact ⟨rfl, by rw [if_pos (show ((40 : UInt8) :: t).head? = some 40 from rfl)]; rfl⟩
    · have h0' : b.toNat ≠ 40 := fun h => h0 ((e1 b 40 (by omega)).1 h)
      rw [if_neg (by simpa using h0)]
      by_cases h1 : l = 44 ∨ l = 41
      · refine .inr (.inl ⟨h0', ?_, ?_⟩)
        · rcases h1 with rfl | rfl
          · exact .inl rfl
          · exact .inr rfl
        · rw [if_pos (by simpa using h1)]; simp
      · refine .inr (.inr ⟨h0', fun h => h1 (.inl ((e1 l 44 (by omega)).1 h)), fun h => h1 (.inr ((e1 l 41 (by omega)).1 h)), ?_⟩)
        rw [if_neg (by simpa using h1)]
theorem find_tyR (w : W) : tyR w = if (Ty.find (strip w)).2 then [(Ty.find (strip w)).1] else [] := rfl
end Mc
theorem types_step {w wr w2 : World} {N : Nat} {e : TypeId} {k n : Nat} {v : Value} {xs : List Value} {o : Obj} (hown : wr.ownsRow N e k v n xs) (hB : Below w.heap.size w wr) (hN : N ≤ wr.heap.size) (hw : w.heap.size ≤ N) (hg : (wr.alloc o).grownBy w2 v.ownBlock) : Below w.heap.size w w2 :=
  (hB.alloc hB.size o).grown hg (by have := hB.size; simp; omega) (fun j hj => by have := (hown.lt j hj).1; omega)
set_option maxHeartbeats 8000000 in
set_option maxRecDepth 100000 in
/-- types. -/
theorem rtypes_any (s : Mc.W) (hs : s.length ≤ 100000) (w : World) :
    Calls Tryz.prog 97 #[.string ⟨s.toArray⟩] w fun e w' => (∃ A c, e = .returned (.slice A (Mc.typesR s).length c) ∧ w'.ownsRow w.heap.size 68 1 (.slice A (Mc.typesR s).length c) (Mc.typesR s).length ((Mc.typesR s).flatMap encZ)) ∧ Below w.heap.size w w' := by
  obtain ⟨i0, hi0, hz0, hz1, hz2⟩ := info_parts info_val
  have HS := Lib.hid (fun W => rsplit_any s 32 (by omega) W)
  have hll := Mc.cuts_len 32 s
  have hlw := Mc.cuts_word 32 s
  obtain ⟨Z, hZ⟩ : ∃ Z, Mc.typesR s = Z := ⟨_, rfl⟩
  rw [hZ]
  unfold Mc.typesR at hZ
  obtain ⟨L, hL⟩ : ∃ L, Mc.cuts 32 s = L := ⟨_, rfl⟩
  rw [hL] at hZ hll hlw
  simp only [hL] at HS
  have HZ : Hid ([] ++ (L.drop 0).flatMap Mc.tyR = Z) := Lib.hid hZ
  have HLW := Lib.hid hlw
  have HF := Lib.hid (fun (nm : List UInt8) W => refFind_any nm W)
  clear hZ hL hlw
  go_enter Tryz.func97, Tryz.ntmps97
  go_upto_region 3 with (go_at_call 50; refine (HS.out _).mono ?_; rintro e w1 ⟨⟨A, c, rfl, hrd⟩, hb⟩)
  have hN1 := hb.size
  refine at_code (F := fun W => Hid (RdS W w1.heap.size A 1 encS L) ∧ Hid (Below w.heap.size w W) ∧ w1.heap.size ≤ W.heap.size) ⟨Lib.hid hrd, Lib.hid hb, Nat.le_refl _⟩ ?_
  clear hrd hb HS
  obtain ⟨N, hN⟩ : ∃ N, w1.heap.size = N := ⟨_, rfl⟩
  rw [hN] at hN1
  simp only [hN]
  clear hN
  rintro W ⟨HRD, HB, hNW⟩
  go_wp2
  go_loopw [3, 5, 6, 7, 8] (fun ov iv _ _ _ wr => ∃ (i m : Nat) (A' : Option Addr) (c' : Nat) (ou : List Int), ov = .slice A' m c' ∧ ou.length = m ∧ m ≤ i ∧ iv = .int .i64 (i : Int) ∧ i ≤ L.length ∧ Hid (ou ++ (L.drop i).flatMap Mc.tyR = Z) ∧ Hid (wr.ownsRow N 68 1 (.slice A' m c') m (ou.flatMap encZ)) ∧ Hid (RdS wr N A 1 encS L) ∧ Hid (Below w.heap.size w wr) ∧ N ≤ wr.heap.size) (fun _ iv _ _ _ _ => L.length - (intOf iv).toNat)
  case atStart => exact ⟨0, 0, none, 0, [], rfl, rfl, by omega, rfl, by omega, HZ, Lib.hid (World.ownsRow_nil _ _ _ _), HRD, HB, hNW⟩
  case round =>
    clear HZ HRD HB hNW
    obtain ⟨i, m, A', c', ou, rfl, hm, hmi, rfl, hi, HZ, HO, HRD, HB, hNW⟩ := hrel
    by_cases hia : i < L.length
    case neg =>
      obtain rfl : i = L.length := by omega
      have x0 : ¬ (L.length : Int) < (L.length : Int) := by omega
      have hz := HZ.out
      rw [List.drop_length, List.flatMap_nil, List.append_nil] at hz
      have HZ2 := Lib.hid hz
      have HM := Lib.hid hm
      clear hz HZ hm
      go_wp2_with fail
      go_ret
      obtain rfl := HZ2.out
      rw [← HM.out] at HO ⊢
      exact ⟨⟨A', c', rfl, own_base HO.out hN1⟩, HB.out⟩
    have x0 : (i : Int) < (L.length : Int) := by omega
    have x1 : (0 : Int) ≤ (i : Int) := by omega
    obtain ⟨g, o, rfl, hg, e1⟩ := HRD.out.get hia
    have f0 := e1 0 _ rfl
    rw [Nat.add_zero, Nat.mul_one] at f0
    have hz := HZ.out
    rw [List.drop_eq_getElem_cons hia, List.flatMap_cons, Mc.find_tyR] at hz
    have hul := HLW.out _ (List.getElem_mem hia)
    unfold Mc.strip at hz
    obtain ⟨u0, hu0⟩ : ∃ u, L[i] = u := ⟨_, rfl⟩
    rw [hu0] at f0 hz hul
    obtain ⟨Q, hQ⟩ : ∃ Q, Mc.stripF u0.length u0 = Q := ⟨_, rfl⟩
    rw [hQ] at hz
    have HQ := Lib.hid hQ
    have HFQ := Lib.hid (HF.out Q)
    obtain ⟨⟨fz, fb⟩, hfq⟩ : ∃ q, Ty.find Q = q := ⟨_, rfl⟩
    rw [hfq] at hz HFQ
    dsimp only at hz HFQ
    have HZ2 := Lib.hid hz
    have HM := Lib.hid hm
    clear hz hQ hu0 e1 HZ hfq hm HF
    go_wp2_with fail
    obtain ⟨wo, hwo⟩ : ∃ wo : World, wo = wr := ⟨_, rfl⟩
    go_loopw [6] (fun s6 wx => ∃ u : Mc.W, s6 = .string ⟨u.toArray⟩ ∧ u.length ≤ 100000 ∧ Hid (Mc.stripF u.length u = Q) ∧ wx = wo) (fun s6 _ => strLen s6)
    case atStart => exact ⟨u0, rfl, by omega, HQ, hwo.symm⟩
    case round =>
      clear HQ hul f0
      obtain ⟨u, rfl, hul, HQ, rfl⟩ := hrel
      have hsz : (ByteArray.mk u.toArray).size = u.length := by simp [ByteArray.size]
      rcases Mc.strip_ways u with ⟨hu, hw⟩ | ⟨n, nb, lb, hn, hnb, hlb, hw⟩
      · obtain rfl : u = Q := by rw [← HQ.out, hw]
        have y0 : ¬ (0 : Int) < (u.length : Int) := by rw [hu]; simp
        clear hw hu HQ
        have hNs := HB.out.size
        rcases fb with _ | _
        · have HZ3 : Hid (ou ++ (L.drop (i + 1)).flatMap Mc.tyR = Z) := Lib.hid (by have := HZ2.out; simpa using this)
          go_wp2_with (go_at_call 138; refine (HFQ.out _).mono ?_; rintro e w2 ⟨rfl, hb⟩)
          go_roundw
          case rel => exact ⟨i + 1, m, A', c', ou, rfl, HM.out, by omega, by go_num, by omega, HZ3, Lib.hid (own_belowW HO.out hb), Lib.hid (HRD.out.lowB hNW hb), Lib.hid (HB.out.trans (hb.mono HB.out.size)), by have := hb.size; omega⟩
          case measure => simp [intOf] <;> omega
        · have HZ3 : Hid ((ou ++ [fz]) ++ (L.drop (i + 1)).flatMap Mc.tyR = Z) := Lib.hid (by have := HZ2.out; simpa using this)
          go_wp2_with (first
            | (go_at_call 138; refine (HFQ.out _).mono ?_; rintro e w2 ⟨rfl, hb⟩; have HO2 := own_belowW HO.out hb; have HR2 := HRD.out.lowB hNW hb; have HB2 := HB.out.trans (hb.mono HB.out.size); have hN2 : N ≤ w2.heap.size := (by have := hb.size; omega); clear hb)
            | (at_builtin; refine app_rs Tryz.underlying34 hi0 hz0 hz1 hz2 rfl (by omega) encZ_len encZ_one _ rfl (.tmp 61) (.tmp 63) rfl N _ m _ (by rfl) (HO2.alloc _) [fz] 1 1 _ rfl (by rfl) (one_val _ _) (by omega) (by omega) (by simp; omega) ?_; intro A2 c2 w3 own3 hg; have HB3 := Lib.hid (types_step HO2 HB2 hN2 hN1 hg); have HR3 := Lib.hid ((HR2.lowB hN2 ((Below.refl _ _).alloc (Nat.le_refl _) _)).offOwn (fun j hj => (HO2.lt j hj).1) hg); have hs3 := hg.size; clear hg))
          go_roundw
          case rel => exact ⟨i + 1, m + 1, A2, c2, ou ++ [fz], rfl, by rw [List.length_append, HM.out]; rfl, by omega, by go_num, by omega, HZ3, Lib.hid own3, HR3, HB3, by simp at hs3; omega⟩
          case measure => simp [intOf] <;> omega
      have y0 : (0 : Int) < (u.length : Int) := by omega
      have y1 : ∀ h, (((ByteArray.mk u.toArray)[0]'h).toNat : Int) = (nb : Int) := fun h => by have := hnb (by omega); show ((u[0]).toNat : Int) = _; omega
      have y2 : ∀ h, (((ByteArray.mk u.toArray)[n]'h).toNat : Int) = (lb : Int) := fun h => by have := hlb (by omega); show ((u[n]).toNat : Int) = _; omega
      have y3 : (n : Int) < (u.length : Int) := by omega
      have y4 : (0 : Int) ≤ (n : Int) := by omega
      have y5 : wrap64 ((u.length : Int) - 1) = (n : Int) := by unfold wrap64; omega
      have y6 : IntKind.i64.wrap ((u.length : Int) - 1) = (n : Int) := by rw [IntKind.wrap_i64]; omega
      have y7 : (n : Int) ≤ (u.length : Int) := by omega
      have y8 : (1 : Int) ≤ (u.length : Int) := by omega
      have HN := Lib.hid hn
      clear hnb hlb hn
      rcases hw with ⟨rfl, hw⟩ | ⟨h40, hlb, hw⟩ | ⟨h40, h44, h41, hw⟩
      · have HQ2 : Hid (Mc.stripF u.tail.length u.tail = Q) := Lib.hid (by rw [← hw]; exact HQ.out)
        clear hw HQ
        go_wp2_with fail
        go_roundw
        case rel => exact ⟨u.tail, (by simp; exact List.take_of_length_le (by simp)), by rw [List.length_tail]; omega, HQ2, (by first | exact hwo | exact hwo.symm)⟩
        case measure => have := HN.out; simp [strLen, ByteArray.size]; omega
      · have HQ2 : Hid (Mc.stripF u.dropLast.length u.dropLast = Q) := Lib.hid (by rw [← hw]; exact HQ.out)
        have z0 : ((nb : Int) == 40) = false := by rw [beq_eq_false_iff_ne]; omega
        have z0' : ¬ (nb : Int) = 40 := by omega
        clear hw HQ
        rcases hlb with rfl | rfl
        · skip
          go_wp2_with fail
          go_roundw
          case rel => exact ⟨u.dropLast, (by rw [List.dropLast_eq_take]; have := HN.out; simp [this]), by rw [List.length_dropLast]; omega, HQ2, (by first | exact hwo | exact hwo.symm)⟩
          case measure => have := HN.out; simp [strLen, ByteArray.size]; omega
        · skip
          go_wp2_with fail
          go_roundw
          case rel => exact ⟨u.dropLast, (by rw [List.dropLast_eq_take]; have := HN.out; simp [this]), by rw [List.length_dropLast]; omega, HQ2, (by first | exact hwo | exact hwo.symm)⟩
          case measure => have := HN.out; simp [strLen, ByteArray.size]; omega
      · obtain rfl : u = Q := by rw [← HQ.out, hw]
        have z0 : ((nb : Int) == 40) = false := by rw [beq_eq_false_iff_ne]; omega
        have z1 : ((lb : Int) == 44) = false := by rw [beq_eq_false_iff_ne]; omega
        have z2 : ((lb : Int) == 41) = false := by rw [beq_eq_false_iff_ne]; omega
        have z0' : ¬ (nb : Int) = 40 := by omega
        have z1' : ¬ (lb : Int) = 44 := by omega
        have z2' : ¬ (lb : Int) = 41 := by omega
        clear hw HQ
        have hNs := HB.out.size
        rcases fb with _ | _
        · have HZ3 : Hid (ou ++ (L.drop (i + 1)).flatMap Mc.tyR = Z) := Lib.hid (by have := HZ2.out; simpa using this)
          go_wp2_with (go_at_call 138; refine (HFQ.out _).mono ?_; rintro e w2 ⟨rfl, hb⟩)
          go_roundw
          case rel => exact ⟨i + 1, m, A', c', ou, rfl, HM.out, by omega, by go_num, by omega, HZ3, Lib.hid (own_belowW HO.out hb), Lib.hid (HRD.out.lowB hNW hb), Lib.hid (HB.out.trans (hb.mono HB.out.size)), by have := hb.size; omega⟩
          case measure => simp [intOf] <;> omega
        · have HZ3 : Hid ((ou ++ [fz]) ++ (L.drop (i + 1)).flatMap Mc.tyR = Z) := Lib.hid (by have := HZ2.out; simpa using this)
          go_wp2_with (first
            | (go_at_call 138; refine (HFQ.out _).mono ?_; rintro e w2 ⟨rfl, hb⟩; have HO2 := own_belowW HO.out hb; have HR2 := HRD.out.lowB hNW hb; have HB2 := HB.out.trans (hb.mono HB.out.size); have hN2 : N ≤ w2.heap.size := (by have := hb.size; omega); clear hb)
            | (at_builtin; refine app_rs Tryz.underlying34 hi0 hz0 hz1 hz2 rfl (by omega) encZ_len encZ_one _ rfl (.tmp 61) (.tmp 63) rfl N _ m _ (by rfl) (HO2.alloc _) [fz] 1 1 _ rfl (by rfl) (one_val _ _) (by omega) (by omega) (by simp; omega) ?_; intro A2 c2 w3 own3 hg; have HB3 := Lib.hid (types_step HO2 HB2 hN2 hN1 hg); have HR3 := Lib.hid ((HR2.lowB hN2 ((Below.refl _ _).alloc (Nat.le_refl _) _)).offOwn (fun j hj => (HO2.lt j hj).1) hg); have hs3 := hg.size; clear hg))
          go_roundw
          case rel => exact ⟨i + 1, m + 1, A2, c2, ou ++ [fz], rfl, by rw [List.length_append, HM.out]; rfl, by omega, by go_num, by omega, HZ3, Lib.hid own3, HR3, HB3, by simp at hs3; omega⟩
          case measure => simp [intOf] <;> omega
end Go.Proofs.YtadnfekogmjieaaGreatDoor
