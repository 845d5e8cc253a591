/-
  The walk of the law ScopeLabels.
-/
import Derived.Test.YtbnddnoognoekaaScopeAlive
set_option linter.unusedVariables false
namespace Go.Proofs.Ytbnddnoognoekaa
open Go.RowKit Go.Maps

/-- A slice of strings that reads as l. -/
def RdS (w : World) (B : Nat) (A : Option Addr) (l : List Nm) : Prop := Reads w B 1 A l.length (l.map str)
theorem RdS.at_ {w : World} {B : Nat} {A : Option Addr} {l : List Nm} {k : Nat} (h : RdS w B A l) (hk : k < l.length) : ∃ ad, A = some ad ∧ ad.block < B ∧ w.cell? (ad.add k) = some (.string ⟨l[k].toArray⟩) := by
  obtain ⟨ad, u, e, hb, hx, hc⟩ := Reads.at_ h hk
  simp [hk, str] at hx
  subst hx
  exact ⟨ad, e, hb, hc⟩
theorem RdS.below {w w' : World} {B : Nat} {A : Option Addr} {l : List Nm} (h : RdS w B A l) (hb : Below B w w') : RdS w' B A l := Reads.below h hb

/-- Add, whatever comes of it: the labels stay. -/
theorem add_some {W : World} {B s : Nat} {y : Lay} {σ : SSt} (h : ScopeAt W B s y σ) (k : Int) (hk : (Lit.int .i64 k).wf = true) (t : Nm) (hl : t.length ≤ 1000000) (hlen : (σ.k k.toNat).length ≤ 1000000) :
    Calls Try.prog 9 #[.pointer (some ⟨s, 0, none⟩), .int .i64 k, .string ⟨t.toArray⟩] W fun e w' => ∃ a b σ' y', e = .returned (.tuple #[.int .i64 a, .int .i64 b]) ∧ ScopeAt w' B s y' σ' ∧ σ'.lab = σ.lab ∧ Turned W w' B s y y' := by
  have stay := Turned.of_below h (Below.refl _ _)
  by_cases hr : 0 ≤ k ∧ k < 9
  · by_cases ht : t = []
    · subst ht
      refine (add_empty h k hk hr hlen).mono ?_
      rintro e w' ⟨rfl, y', h1, h2⟩
      exact ⟨_, _, _, y', rfl, h1, rfl, h2⟩
    · cases hn : Ltr.name t with
      | false =>
        refine (add_name h k hk t hr ht hn hl).mono ?_
        rintro e w' ⟨rfl, rfl⟩
        exact ⟨_, _, _, y, rfl, h, rfl, stay⟩
      | true =>
        cases hf : Sc.find (σ.k k.toNat) t with
        | none =>
          refine (add_new h k hk t hr ht hn hl hf hlen).mono ?_
          rintro e w' ⟨rfl, y', h1, h2⟩
          exact ⟨_, _, _, y', rfl, h1, rfl, h2⟩
        | some i =>
          refine (add_twice h k hk t hr ht hn hl i hf).mono ?_
          rintro e w' ⟨rfl, rfl⟩
          exact ⟨_, _, _, y, rfl, h, rfl, stay⟩
  · refine (add_arg h k hk t hr).mono ?_
    rintro e w' ⟨rfl, rfl⟩
    exact ⟨_, _, _, y, rfl, h, rfl, stay⟩

def atL (m : Nat) (l : List Nm) (t : Nm) (k : Nat) : Int := match labF (l.take k) t with | none => -1 | some j => (m : Int) - k + j
theorem labF_succ (l : List Nm) (t : Nm) (k : Nat) (h : k < l.length) : labF (l.take (k + 1)) t = if l[k] == t then some 0 else (labF (l.take k) t).map (· + 1) := by
  unfold labF
  rw [List.take_succ_eq_append_getElem h, List.reverse_append, List.reverse_singleton, List.singleton_append, List.findIdx?_cons]
theorem atL_zero (m : Nat) (l : List Nm) (t : Nm) : atL m l t 0 = -1 := rfl
theorem atL_hit (m : Nat) (l : List Nm) (t : Nm) (k : Nat) (h : k < l.length) (he : (l[k] == t) = true) : atL m l t (k + 1) = (m : Int) - 1 - k := by
  unfold atL
  rw [labF_succ l t k h, if_pos he]
  simp
  omega
theorem atL_miss (m : Nat) (l : List Nm) (t : Nm) (k : Nat) (h : k < l.length) (he : (l[k] == t) = false) : atL m l t (k + 1) = atL m l t k := by
  unfold atL
  rw [labF_succ l t k h, if_neg (by rw [he]; decide)]
  cases labF (l.take k) t with
  | none => rfl
  | some j => simp; omega

set_option maxHeartbeats 2000000 in
set_option maxRecDepth 100000 in
theorem labels_walk (A : Option Addr) (c : Nat) (l : List Nm) (p : Int) (t : Nm) (w : World) (hr : RdS w w.heap.size A l) (hp : 0 ≤ p ∧ p < 256) (hl : l.length ≤ 40) (ht : t.length ≤ 40) :
    Calls Try.prog 3 #[.slice A l.length c, .int .u8 p, .string ⟨t.toArray⟩] w fun e w' => e = .returned (.bool true) ∧ Below w.heap.size w w' := by
  obtain ⟨B, hB⟩ : ∃ B, w.heap.size = B := ⟨_, rfl⟩
  have C0 : Hid (Calls Try.prog 8 #[] w fun e w' => e = .returned (.pointer (some ⟨B + 1, 0, none⟩)) ∧ NewAt w w' B 9) := by have := new_any w; rw [hB] at this; exact this
  rw [hB] at hr ⊢
  clear hB
  have g1 : decide ((40 : Int) < (l.length : Int)) = false := by simp; omega
  have g2 : decide ((40 : Int) < (t.length : Int)) = false := by simp; omega
  go_enter Try.func3, Try.ntmps3
  go_wp2_with fail
  refine C0.out.mono ?_
  rintro e w1 ⟨rfl, hN⟩
  have h0 : ScopeAt w1 B (B + 1) _ sc0 := hN.scope
  have b0 := hN.bel
  clear hN C0
  go_wp2_with fail
  refine (add_some h0 1 wf_1 t (by omega) (by decide)).mono ?_
  rintro e w2 ⟨ra, rb2, σ1, y1, rfl, h1, hlab, t1⟩
  have b1 := b0.trans t1.bel
  have h1' : ScopeAt w2 B (B + 1) y1 ⟨σ1.k, []⟩ := by
    obtain ⟨k1, lab1⟩ := σ1
    dsimp only at hlab
    subst hlab
    exact h1
  clear h0 t1 b0 h1 hlab
  go_wp2_with fail
  go_loopw [8] (fun i wr => ∃ (k : Nat) (y' : Lay), k ≤ l.length ∧ i = .int .i64 k ∧ ScopeAt wr B (B + 1) y' ⟨σ1.k, l.take k⟩ ∧ Below B w wr) (fun i _ => l.length - (intOf i).toNat)
  case atStart => exact ⟨0, y1, by omega, rfl, h1', b1⟩
  case round =>
    obtain ⟨k, y', hk, rfl, hS, hb⟩ := hrel
    by_cases hkl : k < l.length
    · obtain ⟨ad, rfl, hblk, hcell0⟩ := hr.at_ hkl
      have hcell := (hb.cell (p := ad.add k) (by rw [block_of_add]; exact hblk)).trans hcell0
      have k0 : (0 : Int) ≤ (k : Int) := Int.natCast_nonneg _
      have k1 : (k : Int) < (l.length : Int) := by omega
      have htk : l.take (k + 1) = l.take k ++ [l[k]] := List.take_succ_eq_append_getElem hkl
      obtain ⟨x, hx⟩ : ∃ x, l[k] = x := ⟨_, rfl⟩
      rw [hx] at hcell htk
      have HT := Lib.hid htk
      have HS := Lib.hid hS
      have HL : Hid ((l.take k).length ≤ 1000000) := Lib.hid (by simp; omega)
      clear hcell0 htk hx hS
      go_wp2_with (go_at_call 10; refine (push_any HS.out x HL.out).mono ?_; rintro e w3 ⟨rfl, y2, h2, t2⟩)
      go_roundw
      case rel => exact ⟨k + 1, y2, by omega, by go_num, by rw [HT.out]; exact h2, hb.trans t2.bel⟩
      case measure => simp [intOf]; omega
    · obtain rfl : k = l.length := by omega
      rw [List.take_length] at hS
      clear h1' b1
      go_wp2_with fail
      obtain ⟨P, hP⟩ : ∃ P : Nat, p.tmod 50 = (P : Int) := ⟨(p % 50).toNat, by rw [Int.tmod_eq_emod_of_nonneg hp.1]; omega⟩
      have hcv : IntKind.i64.wrap p = p := by rw [IntKind.wrap_i64]; omega
      have hPl : P ≤ 50 := by have := Int.tmod_lt_of_pos p (show (0 : Int) < 50 by omega); omega
      have hwP : IntKind.i64.wrap (P : Int) = (P : Int) := by rw [IntKind.wrap_i64]; omega
      have hbo := hb
      have hSo := hS
      clear hb hS hkl hk
      go_loopw [9, 10] (fun nv i W => ∃ (j m : Nat) (y' : Lay), j ≤ P ∧ i = .int .i64 j ∧ nv = .int .i64 m ∧ m = l.length - j ∧ ScopeAt W B (B + 1) y' ⟨σ1.k, l.take m⟩ ∧ Below B w W) (fun _ i _ => P - (intOf i).toNat)
      case atStart => exact ⟨0, l.length, y', by omega, rfl, rfl, rfl, by rw [List.take_length]; exact hSo, hbo⟩
      case round =>
        obtain ⟨j, m, y2, hj, rfl, rfl, hm, hS, hb⟩ := hrel
        clear hSo hbo
        have hml : m ≤ l.length := by omega
        by_cases hjP : j < P
        · have hw1 : IntKind.i64.wrap ((m : Int) - 1) = (m : Int) - 1 := by rw [IntKind.wrap_i64]; omega
          have HS := Lib.hid hS
          have HL : Hid ((l.take m).length ≤ 1000000) := Lib.hid (by simp; omega)
          have HE : Hid ((l.take m).take ((l.take m).length - 1) = l.take (m - 1)) := Lib.hid (by rw [List.take_take]; congr 1; simp; omega)
          have HM := Lib.hid hm
          clear hS hm
          go_wp2_with (go_at_call 11; refine (pop_any HS.out HL.out).mono ?_; rintro e w3 ⟨rfl, y3, h3, t3⟩)
          go_roundw
          case rel => exact ⟨j + 1, m - 1, y3, by omega, by go_num, by go_num, by have := HM.out; omega, by have := HE.out; rw [this] at h3; exact h3, hb.trans t3.bel⟩
          case measure => simp [intOf]; omega
        · obtain rfl : j = P := by omega
          clear hm
          have hsz : B ≤ wr.heap.size := by have := (hS.foot_in (b := B + 1) (.inl rfl)).2; omega
          by_cases h0 : t = []
          · subst h0
            clear hS
            go_wp2_with (go_at_call 7; refine (alive_any _).mono ?_; rintro e w3 ⟨rfl, hb3⟩)
            go_ret
            exact ⟨rfl, hb.trans (hb3.mono hsz)⟩
          have hl0 : 0 < t.length := List.length_pos_iff.2 h0
          obtain ⟨c0, hc0⟩ : ∃ c, t[0] = c := ⟨_, rfl⟩
          have hb0 := lba_get t 0 hl0 c0 hc0
          have hpos : (0 : Int) < (t.length : Int) := by omega
          have hz : ((t.length : Int) == 0) = false := by simpa using (by omega : ¬ (t.length : Int) = 0)
          have hh : t.head? = some c0 := by rw [List.head?_eq_getElem?, ← hc0]; simp [hl0]
          have HZ : t ≠ [] := h0
          clear hc0 h0
          by_cases hc : c0 = 36
          · subst hc
            have hmm : (0 : Int) ≤ (m : Int) := Int.natCast_nonneg _
            go_wp2_with fail
            go_loopw [11, 12] (fun av i W => ∃ k : Nat, k ≤ m ∧ i = .int .i64 k ∧ av = .int .i64 (atL m l t k) ∧ W = wr) (fun _ i _ => m - (intOf i).toNat)
            case atStart => exact ⟨0, by omega, rfl, rfl, rfl⟩
            case round =>
              rename_i wr2
              obtain ⟨k, hk, rfl, rfl, rfl⟩ := hrel
              by_cases hkm : k < m
              · have hkl : k < l.length := by omega
                obtain ⟨ad, rfl, hblk, hcell0⟩ := hr.at_ hkl
                have hcell := (hb.cell (p := ad.add k) (by rw [block_of_add]; exact hblk)).trans hcell0
                have k0 : (0 : Int) ≤ (k : Int) := Int.natCast_nonneg _
                have k1 : (k : Int) < (l.length : Int) := by omega
                have hw1 : IntKind.i64.wrap ((m : Int) - 1) = (m : Int) - 1 := by rw [IntKind.wrap_i64]; omega
                have hw2 : IntKind.i64.wrap ((m : Int) - 1 - (k : Int)) = (m : Int) - 1 - (k : Int) := by rw [IntKind.wrap_i64]; omega
                have hhit := atL_hit m l t k hkl
                have hmis := atL_miss m l t k hkl
                obtain ⟨x, hx⟩ : ∃ x, l[k] = x := ⟨_, rfl⟩
                rw [hx] at hcell hhit hmis
                generalize atL m l t k = v at hmis ⊢
                have HH1 := Lib.hid hhit
                have HH2 := Lib.hid hmis
                have HS := Lib.hid hS
                clear hcell0 hx hhit hmis hS
                rcases hbx : (x == t) with _ | _
                · go_wp2_with fail
                  go_roundw
                  case rel => exact ⟨k + 1, by omega, by go_num, by rw [HH2.out hbx], by first | rfl | trivial⟩
                  case measure => simp [intOf]; omega
                · go_wp2_with fail
                  go_roundw
                  case rel => exact ⟨k + 1, by omega, by go_num, by rw [HH1.out hbx], by first | rfl | trivial⟩
                  case measure => simp [intOf]; omega
              · obtain rfl : k = m := by omega
                have hlab := label_dollar hS t hh (by omega) (by simp; omega)
                have hat : atL k l t k = match labF (l.take k) t with | none => -1 | some j => (j : Int) := by
                  unfold atL
                  split <;> simp_all
                dsimp only at hlab
                cases hf : labF (l.take k) t with
                | none =>
                  rw [hf] at hlab hat
                  have HL := Lib.hid hlab
                  rw [show atL k l t k = -1 from hat]
                  clear hlab hat hf hS
                  go_wp2_with (first
                    | (go_at_call 12; refine HL.out.mono ?_; rintro e w4 ⟨rfl, q, rfl⟩; dsimp only [finF])
                    | (go_at_call 7; refine (alive_any _).mono ?_; rintro e w5 ⟨rfl, hb5⟩))
                  go_ret
                  exact ⟨rfl, (below_drewN hb q).trans (hb5.mono hsz)⟩
                | some j =>
                  rw [hf] at hlab hat
                  have HL := Lib.hid hlab
                  rw [show atL k l t k = (j : Int) from hat]
                  clear hlab hat hf hS
                  go_wp2_with (first
                    | (go_at_call 12; refine HL.out.mono ?_; rintro e w4 ⟨rfl, q, rfl⟩; dsimp only [finF])
                    | (go_at_call 7; refine (alive_any _).mono ?_; rintro e w5 ⟨rfl, hb5⟩))
                  go_ret
                  exact ⟨rfl, (below_drewN hb q).trans (hb5.mono hsz)⟩
          · have n1 := lcne' c0 36 (by omega) hc
            simp only [Int.cast_ofNat_Int] at n1
            clear hS hc hh
            go_wp2_with (go_at_call 7; refine (alive_any _).mono ?_; rintro e w3 ⟨rfl, hb3⟩)
            go_ret
            exact ⟨rfl, hb.trans (hb3.mono hsz)⟩

set_option maxHeartbeats 2000000 in
set_option maxRecDepth 100000 in
theorem scopeLabels_walk (A : Option Addr) (c : Nat) (l : List Nm) (p : Int) (t : Nm) (w : World) (hr : RdS w w.heap.size A l) (hp : 0 ≤ p ∧ p < 256) (htl : t.length ≤ 9223372036854775807) :
    Calls Try.prog 3 #[.slice A l.length c, .int .u8 p, .string ⟨t.toArray⟩] w fun e w' => e = .returned (.bool true) ∧ Below w.heap.size w w' := by
  by_cases hl : l.length ≤ 40
  · by_cases ht : t.length ≤ 40
    · exact labels_walk A c l p t w hr hp hl ht
    · have g1 : decide ((40 : Int) < (l.length : Int)) = false := by simp; omega
      have g2 : decide ((40 : Int) < (t.length : Int)) = true := by simp; omega
      go_enter Try.func3, Try.ntmps3
      go_wp2_with (go_at_call 7; refine (alive_any _).mono ?_; rintro e w1 ⟨rfl, hb⟩)
      go_ret
      exact ⟨rfl, hb⟩
  · have g1 : decide ((40 : Int) < (l.length : Int)) = true := by simp; omega
    go_enter Try.func3, Try.ntmps3
    go_wp2_with (go_at_call 7; refine (alive_any _).mono ?_; rintro e w1 ⟨rfl, hb⟩)
    go_ret
    exact ⟨rfl, hb⟩
end Go.Proofs.Ytbnddnoognoekaa
