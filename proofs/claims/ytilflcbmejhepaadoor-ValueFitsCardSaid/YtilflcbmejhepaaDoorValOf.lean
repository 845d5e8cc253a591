/-
  Layer 27: Of, the reference's and ours.
-/
import Derived.Test.YtilflcbmejhepaaDoorValOfP
import Derived.Deep.CutBlock
set_option linter.unusedVariables false
set_option linter.unusedSimpArgs false
namespace Go.Proofs.YtilflcbmejhepaaDoor
open Go.RowKit
open Val (V)

theorem vcells_len : ∀ l : List V, (vcells l).length = l.length * 2
  | [] => rfl
  | v :: l => by
    have := vcells_len l
    unfold vcells at this ⊢
    rw [List.flatMap_cons, List.length_append, this]
    simp; omega
theorem vcells_at : ∀ (l : List V) (k : Nat) (h : k < l.length), (vcells l)[k * 2]? = some (.int .i64 l[k].t) ∧ (vcells l)[k * 2 + 1]? = some (.int .u64 (l[k].n : Int))
  | v :: l, 0, _ => ⟨rfl, rfl⟩
  | v :: l, k + 1, h => by
    have := vcells_at l k (by simpa using h)
    have e : vcells (v :: l) = .int .i64 v.t :: .int .u64 (v.n : Int) :: vcells l := rfl
    rw [e, show (k + 1) * 2 = k * 2 + 1 + 1 from by omega]
    simpa using this
theorem own_rdv {w : World} {base : Nat} {e : TypeId} {A : Option Addr} {c n : Nat} {l : List V} (h : w.ownsRow base e 2 (.slice A n c) n (vcells l)) : RdV w w.heap.size A l := fun hl => by
  have hn : l.length = n := by have := h.1; rw [vcells_len] at this; omega
  have hp : 0 < n := by rcases l with _ | _ <;> simp_all <;> omega
  obtain ⟨g, cap, hv, hb, hlt⟩ := h.form hp
  injection hv with hv
  subst hv
  refine ⟨g, 0, rfl, hlt, fun k hk => ?_⟩
  obtain ⟨y0, y1⟩ := vcells_at l k hk
  have z0 := h.cellAt (k * 2) (by omega)
  have z1 := h.cellAt (k * 2 + 1) (by omega)
  rw [y0] at z0
  rw [y1] at z1
  rw [Nat.zero_add]
  exact ⟨z0, z1⟩

set_option maxHeartbeats 8000000 in
set_option maxRecDepth 100000 in
theorem rof_any (A1 A2 : Option Addr) (c1 c2 : Nat) (l : List Nat) (ts : List Int) (w : World) (h1 : RdC w w.heap.size A1 (ubits l)) (h2 : RdC w w.heap.size A2 (vtys ts)) (hn : ∀ n ∈ l, n < 18446744073709551616) (l1 : l.length ≤ 1000000) (l2 : ts.length ≤ 1000000) :
    Calls Tryd.prog 25 #[.slice A1 l.length c1, .slice A2 ts.length c2] w fun e w' => (∃ A c, e = .returned (.slice A (Val.ofv l ts).length c) ∧ RdV w' w'.heap.size A (Val.ofv l ts)) ∧ Below w.heap.size w w' := by
  by_cases hl : l.length = ts.length
  · have d0 : ((l.length : Int) != (ts.length : Int)) = false := by simp; omega
    have d1 : (l.length != ts.length) = false := by simp; omega
    have HL := Lib.hid hl
    clear hl
    go_enter Tryd.func25, Tryd.ntmps25
    go_wp2
    go_loopw [5, 6] (fun ov iv wr => ∃ (i : Nat) (A : Option Addr) (c : Nat), ov = .slice A i c ∧ iv = .int .i64 (i : Int) ∧ i ≤ l.length ∧ RdC wr w.heap.size A1 (ubits l) ∧ RdC wr w.heap.size A2 (vtys ts) ∧ wr.ownsRow w.heap.size 25 2 (.slice A i c) i (vcells (Val.ofs (l.take i) (ts.take i))) ∧ Below w.heap.size w wr ∧ (∀ k (hk : k < ts.length), k < i → valB ts[k] = true)) (fun _ iv _ => l.length - (intOf iv).toNat)
    case atStart => exact ⟨0, none, 0, rfl, rfl, by omega, h1, h2, World.ownsRow_nil _ _ _ _, Below.refl _ _, fun k _ h => absurd h (by omega)⟩
    case round =>
      obtain ⟨i, A, c, rfl, rfl, hi, k1, k2, hown, hB, hva⟩ := hrel
      by_cases hia : i < l.length
      · have hib : i < ts.length := by have := HL.out; omega
        obtain ⟨ga, oa, rfl, hb1, e1⟩ := id k1 (by intro e; have := congrArg List.length e; simp [ubits] at this; rw [this] at hia; simp at hia)
        obtain ⟨gt, ot, rfl, hb2, e2⟩ := id k2 (by intro e; have := congrArg List.length e; simp [vtys] at this; rw [this] at hib; simp at hib)
        have f0 := e1 i (by simpa [ubits] using hia)
        have g0 := e2 i (by simpa [vtys] using hib)
        simp only [ubits, vtys, List.getElem_map] at f0 g0
        have hst := Val.ofs_snoc l ts i hia hib
        have hnn := hn l[i] (List.getElem_mem _)
        have hbad := fun h => Val.ofv_bad (l := l) (ts := ts) hib h
        have hnext : valB ts[i] = true → ∀ k (hk : k < ts.length), k < i + 1 → valB ts[k] = true := fun h k hk hki => by
          rcases Nat.lt_or_ge k i with h' | h'
          · exact hva k hk h'
          · have : k = i := by omega
            subst this; exact h
        obtain ⟨n, hv⟩ : ∃ v, l[i] = v := ⟨_, rfl⟩
        obtain ⟨t, hv'⟩ : ∃ v, ts[i] = v := ⟨_, rfl⟩
        rw [hv] at f0 hst hnn
        rw [hv'] at g0 hst hbad hnext
        have x0 : (i : Int) < (l.length : Int) := by omega
        have x1 : (i : Int) < (ts.length : Int) := by omega
        have x2 : (0 : Int) ≤ (i : Int) := by omega
        have x3 : decide (i < l.length) = true := by simpa using hia
        have hsz := hB.size
        have HN := Lib.hid hn
        have K1 := Lib.hid k1
        have K2 := Lib.hid k2
        have HST := Lib.hid hst
        have HNX := Lib.hid hnext
        have HBD := Lib.hid hbad
        clear hn k1 k2 e1 e2 hv hv' hst hnext hbad hva
        rcases hvb : valB t with _ | _
        · have HE := Lib.hid (HBD.out hvb)
          have HC : Hid (∀ W, Calls Tryd.prog 27 #[.int .i64 t] W fun e w' => e = .returned (.bool false) ∧ W = w') := Lib.hid (fun W => by have h := rtypes_any t W; rw [hvb] at h; exact h)
          clear hvb
          go_wp2_with (go_at_call 27; refine (HC.out _).mono ?_; rintro e w1 ⟨rfl, rfl⟩)
          go_ret
          exact ⟨⟨none, 0, by rw [HE.out]; rfl, by rw [HE.out]; exact fun h => absurd rfl h⟩, hB⟩
        · have HNV := Lib.hid (HNX.out hvb)
          have HC : Hid (∀ W, Calls Tryd.prog 27 #[.int .i64 t] W fun e w' => e = .returned (.bool true) ∧ W = w') := Lib.hid (fun W => by have h := rtypes_any t W; rw [hvb] at h; exact h)
          clear hvb
          have u1 : IntKind.u32.wrap (n : Int) = ((n % 4294967296 : Nat) : Int) := by rw [IntKind.wrap_u32]; omega
          obtain ⟨q, hq⟩ : ∃ q, n % 4294967296 = q := ⟨_, rfl⟩
          rw [hq] at u1
          have u2 : IntKind.u64.wrap (q : Int) = (q : Int) := by rw [IntKind.wrap_u64]; omega
          by_cases ht : t = 1
          · subst ht
            have hlow : Val.low 1 n = q := by unfold Val.low; rw [if_pos rfl, hq]
            rw [hlow] at HST
            clear hq hlow
            go_wp2_with (first
              | (go_at_call 27; refine (HC.out _).mono ?_; rintro e w1 ⟨rfl, rfl⟩)
              | (at_builtin; refine app_value _ ⟨1, q⟩ rfl (.tmp 38) (.tmp 45) rfl w.heap.size _ i _ (by rfl) (hown.alloc _) wr.heap.size (by rfl) (heap_alloc_new wr _) (by omega) (by simp; omega) ?_; intro A' c' w2 hown2 hg; have HB2 := Lib.hid ((hB.alloc hsz _).trans (below_own (hown.alloc _) hg (by simp; omega))); have HB3 := Lib.hid (((Below.refl w.heap.size wr).alloc hsz _).trans (below_own (hown.alloc _) hg (by simp; omega)))))
            go_round
            case rel => exact ⟨i + 1, A', c', rfl, by go_num, by omega, K1.out.below HB3.out, K2.out.below HB3.out, by rw [HST.out]; exact hown2, HB2.out, HNV.out⟩
            case measure => simp [intOf]; omega
          · have q1 : (t == 1) = false := by simpa using ht
            have hlow : Val.low t n = n := by unfold Val.low; rw [if_neg ht]
            rw [hlow] at HST
            clear hq hlow ht
            go_wp2_with (first
              | (go_at_call 27; refine (HC.out _).mono ?_; rintro e w1 ⟨rfl, rfl⟩)
              | (at_builtin; refine app_value _ ⟨t, n⟩ rfl (.tmp 38) (.tmp 45) rfl w.heap.size _ i _ (by rfl) (hown.alloc _) wr.heap.size (by rfl) (heap_alloc_new wr _) (by omega) (by simp; omega) ?_; intro A' c' w2 hown2 hg; have HB2 := Lib.hid ((hB.alloc hsz _).trans (below_own (hown.alloc _) hg (by simp; omega))); have HB3 := Lib.hid (((Below.refl w.heap.size wr).alloc hsz _).trans (below_own (hown.alloc _) hg (by simp; omega)))))
            go_round
            case rel => exact ⟨i + 1, A', c', rfl, by go_num, by omega, K1.out.below HB3.out, K2.out.below HB3.out, by rw [HST.out]; exact hown2, HB2.out, HNV.out⟩
            case measure => simp [intOf]; omega
      · have hi2 : i = l.length := by omega
        have HE : Hid (Val.ofv l ts = Val.ofs l ts) := Lib.hid (Val.ofv_all HL.out fun k hk => hva k hk (by have := HL.out; omega))
        subst hi2
        rw [List.take_length, show List.take l.length ts = ts by rw [HL.out]; exact List.take_length] at hown
        have hlen : (Val.ofs l ts).length = l.length := by have := hown.1; rw [vcells_len] at this; omega
        have x3 : decide (l.length < l.length) = false := by simp
        clear hva k1 k2
        go_wp2
        go_ret
        exact ⟨⟨A, c, by rw [HE.out, hlen]; rfl, by rw [HE.out]; exact own_rdv hown⟩, hB⟩
  · have d0 : ((l.length : Int) != (ts.length : Int)) = true := by simp; omega
    have d1 : (l.length != ts.length) = true := by simp; omega
    have HE := Lib.hid (Val.ofv_len_ne hl)
    go_enter Tryd.func25, Tryd.ntmps25
    go_wp2
    go_ret
    exact ⟨⟨none, 0, by rw [HE.out]; rfl, by rw [HE.out]; exact fun h => absurd rfl h⟩, Below.refl _ _⟩
set_option maxHeartbeats 8000000 in
set_option maxRecDepth 100000 in
theorem of_any (A1 A2 : Option Addr) (c1 c2 : Nat) (l : List Nat) (ts : List Int) (w : World) (h1 : RdC w w.heap.size A1 (ubits l)) (h2 : RdC w w.heap.size A2 (vtys ts)) (hn : ∀ n ∈ l, n < 18446744073709551616) (l1 : l.length ≤ 1000000) (l2 : ts.length ≤ 1000000) :
    Calls Tryd.prog 24 #[.slice A1 l.length c1, .slice A2 ts.length c2] w fun e w' => (∃ A c, e = .returned (.slice A (Val.ofv l ts).length c) ∧ RdV w' w'.heap.size A (Val.ofv l ts)) ∧ Below w.heap.size w w' := by
  by_cases hl : l.length = ts.length
  · have d0 : ((l.length : Int) != (ts.length : Int)) = false := by simp; omega
    have d1 : (l.length != ts.length) = false := by simp; omega
    have HL := Lib.hid hl
    clear hl
    go_enter Tryd.func24, Tryd.ntmps24
    go_wp2
    go_loopw [5, 15] (fun ov iv wr => ∃ (i : Nat) (A : Option Addr) (c : Nat), ov = .slice A i c ∧ iv = .int .i64 (i : Int) ∧ i ≤ l.length ∧ RdC wr w.heap.size A1 (ubits l) ∧ RdC wr w.heap.size A2 (vtys ts) ∧ wr.ownsRow w.heap.size 25 2 (.slice A i c) i (vcells (Val.ofs (l.take i) (ts.take i))) ∧ Below w.heap.size w wr ∧ (∀ k (hk : k < ts.length), k < i → valB ts[k] = true)) (fun _ iv _ => l.length - (intOf iv).toNat)
    case atStart => exact ⟨0, none, 0, rfl, rfl, by omega, h1, h2, World.ownsRow_nil _ _ _ _, Below.refl _ _, fun k _ h => absurd h (by omega)⟩
    case round =>
      obtain ⟨i, A, c, rfl, rfl, hi, k1, k2, hown, hB, hva⟩ := hrel
      by_cases hia : i < l.length
      · have hib : i < ts.length := by have := HL.out; omega
        obtain ⟨ga, oa, rfl, hb1, e1⟩ := id k1 (by intro e; have := congrArg List.length e; simp [ubits] at this; rw [this] at hia; simp at hia)
        obtain ⟨gt, ot, rfl, hb2, e2⟩ := id k2 (by intro e; have := congrArg List.length e; simp [vtys] at this; rw [this] at hib; simp at hib)
        have f0 := e1 i (by simpa [ubits] using hia)
        have g0 := e2 i (by simpa [vtys] using hib)
        simp only [ubits, vtys, List.getElem_map] at f0 g0
        have hst := Val.ofs_snoc l ts i hia hib
        have hnn := hn l[i] (List.getElem_mem _)
        have hbad := fun h => Val.ofv_bad (l := l) (ts := ts) hib h
        have hnext : valB ts[i] = true → ∀ k (hk : k < ts.length), k < i + 1 → valB ts[k] = true := fun h k hk hki => by
          rcases Nat.lt_or_ge k i with h' | h'
          · exact hva k hk h'
          · have : k = i := by omega
            subst this; exact h
        obtain ⟨n, hv⟩ : ∃ v, l[i] = v := ⟨_, rfl⟩
        obtain ⟨t, hv'⟩ : ∃ v, ts[i] = v := ⟨_, rfl⟩
        rw [hv] at f0 hst hnn
        rw [hv'] at g0 hst hbad hnext
        have x0 : (i : Int) < (l.length : Int) := by omega
        have x1 : (i : Int) < (ts.length : Int) := by omega
        have x2 : (0 : Int) ≤ (i : Int) := by omega
        have x3 : decide (i < l.length) = true := by simpa using hia
        have hsz := hB.size
        have HN := Lib.hid hn
        have K1 := Lib.hid k1
        have K2 := Lib.hid k2
        have HST := Lib.hid hst
        have HNX := Lib.hid hnext
        have HBD := Lib.hid hbad
        clear hn k1 k2 e1 e2 hv hv' hst hnext hbad hva
        rcases hvb : valB t with _ | _
        · have HE := Lib.hid (HBD.out hvb)
          have HC : Hid (∀ W, Calls Tryd.prog 26 #[.int .i64 t] W fun e w' => e = .returned (.bool false) ∧ W = w') := Lib.hid (fun W => by have h := val_any t W; rw [hvb] at h; exact h)
          clear hvb
          go_wp2_with (go_at_call 26; refine (HC.out _).mono ?_; rintro e w1 ⟨rfl, rfl⟩)
          go_ret
          exact ⟨⟨none, 0, by rw [HE.out]; rfl, by rw [HE.out]; exact fun h => absurd rfl h⟩, hB⟩
        · have HNV := Lib.hid (HNX.out hvb)
          have HC : Hid (∀ W, Calls Tryd.prog 26 #[.int .i64 t] W fun e w' => e = .returned (.bool true) ∧ W = w') := Lib.hid (fun W => by have h := val_any t W; rw [hvb] at h; exact h)
          clear hvb
          have u1 : IntKind.u32.wrap (n : Int) = ((n % 4294967296 : Nat) : Int) := by rw [IntKind.wrap_u32]; omega
          obtain ⟨q, hq⟩ : ∃ q, n % 4294967296 = q := ⟨_, rfl⟩
          rw [hq] at u1
          have u2 : IntKind.u64.wrap (q : Int) = (q : Int) := by rw [IntKind.wrap_u64]; omega
          by_cases ht : t = 1
          · subst ht
            have hlow : Val.low 1 n = q := by unfold Val.low; rw [if_pos rfl, hq]
            rw [hlow] at HST
            clear hq hlow
            go_wp2_with (first
              | (go_at_call 26; refine (HC.out _).mono ?_; rintro e w1 ⟨rfl, rfl⟩)
              | (at_builtin; refine app_value _ ⟨1, q⟩ rfl (.tmp 36) (.tmp 43) rfl w.heap.size _ i _ (by rfl) (hown.alloc _) wr.heap.size (by rfl) (heap_alloc_new wr _) (by omega) (by simp; omega) ?_; intro A' c' w2 hown2 hg; have HB2 := Lib.hid ((hB.alloc hsz _).trans (below_own (hown.alloc _) hg (by simp; omega))); have HB3 := Lib.hid (((Below.refl w.heap.size wr).alloc hsz _).trans (below_own (hown.alloc _) hg (by simp; omega)))))
            go_round
            case rel => exact ⟨i + 1, A', c', rfl, by go_num, by omega, K1.out.below HB3.out, K2.out.below HB3.out, by rw [HST.out]; exact hown2, HB2.out, HNV.out⟩
            case measure => simp [intOf]; omega
          · have q1 : (t == 1) = false := by simpa using ht
            have hlow : Val.low t n = n := by unfold Val.low; rw [if_neg ht]
            rw [hlow] at HST
            clear hq hlow ht
            go_wp2_with (first
              | (go_at_call 26; refine (HC.out _).mono ?_; rintro e w1 ⟨rfl, rfl⟩)
              | (at_builtin; refine app_value _ ⟨t, n⟩ rfl (.tmp 36) (.tmp 43) rfl w.heap.size _ i _ (by rfl) (hown.alloc _) wr.heap.size (by rfl) (heap_alloc_new wr _) (by omega) (by simp; omega) ?_; intro A' c' w2 hown2 hg; have HB2 := Lib.hid ((hB.alloc hsz _).trans (below_own (hown.alloc _) hg (by simp; omega))); have HB3 := Lib.hid (((Below.refl w.heap.size wr).alloc hsz _).trans (below_own (hown.alloc _) hg (by simp; omega)))))
            go_round
            case rel => exact ⟨i + 1, A', c', rfl, by go_num, by omega, K1.out.below HB3.out, K2.out.below HB3.out, by rw [HST.out]; exact hown2, HB2.out, HNV.out⟩
            case measure => simp [intOf]; omega
      · have hi2 : i = l.length := by omega
        have HE : Hid (Val.ofv l ts = Val.ofs l ts) := Lib.hid (Val.ofv_all HL.out fun k hk => hva k hk (by have := HL.out; omega))
        subst hi2
        rw [List.take_length, show List.take l.length ts = ts by rw [HL.out]; exact List.take_length] at hown
        have hlen : (Val.ofs l ts).length = l.length := by have := hown.1; rw [vcells_len] at this; omega
        have x3 : decide (l.length < l.length) = false := by simp
        clear hva k1 k2
        go_wp2
        go_ret
        exact ⟨⟨A, c, by rw [HE.out, hlen]; rfl, by rw [HE.out]; exact own_rdv hown⟩, hB⟩
  · have d0 : ((l.length : Int) != (ts.length : Int)) = true := by simp; omega
    have d1 : (l.length != ts.length) = true := by simp; omega
    have HE := Lib.hid (Val.ofv_len_ne hl)
    go_enter Tryd.func24, Tryd.ntmps24
    go_wp2
    go_ret
    exact ⟨⟨none, 0, by rw [HE.out]; rfl, by rw [HE.out]; exact fun h => absurd rfl h⟩, Below.refl _ _⟩
end Go.Proofs.YtilflcbmejhepaaDoor
