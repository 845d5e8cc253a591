/-
  Layer 51: mach's place, line. (Printed by gen_ms4.py.)
-/
import Derived.Test.YtadnfekogmjieaaGreatDoorGG2
import Derived.Deep.Cut
import Derived.Deep.CutRange
import Derived.Deep.CutBlock
set_option linter.unusedVariables false
set_option linter.unusedSimpArgs false
namespace Go.Proofs.YtadnfekogmjieaaGreatDoor
open Go.RowKit
open Mc (Pl Mi Mf)
namespace Mc
theorem join_len (m : Nat) : ∀ l : List (List UInt8), (∀ w ∈ l, w.length ≤ m) → (Lib.join l [32]).length ≤ (m + 1) * l.length := by
  have ht : ∀ l : List (List UInt8), (∀ w ∈ l, w.length ≤ m) → (Lib.joinTail [32] l).length ≤ (m + 1) * l.length := by
    intro l
    induction l with
    | nil => intro _; simp [Lib.joinTail]
    | cons a l ih =>
      intro h
      have h1 := h a (by simp)
      have h2 := ih fun w hw => h w (by simp [hw])
      have e : Lib.joinTail [32] (a :: l) = 32 :: (a ++ Lib.joinTail [32] l) := by simp [Lib.joinTail]
      rw [e, List.length_cons, List.length_append, List.length_cons, Nat.mul_succ]
      omega
  intro l h
  rcases l with _ | ⟨a, l⟩
  · simp [Lib.join]
  · have h1 := h a (by simp)
    have h2 := ht l fun w hw => h w (by simp [hw])
    rw [Lib.join_cons, List.length_append, List.length_cons, Nat.mul_succ]
    omega
theorem row_word (k : Int) : (row k).w.length ≤ 20 := by
  have h : ∀ r ∈ rws, r.w.length ≤ 20 := by decide
  unfold row
  rw [List.getD_eq_getElem?_getD]
  rcases hr : rws[k.toNat]? with _ | r
  · simp
  · exact h r (List.mem_of_getElem? hr)
theorem plW_len {p : Pl} (h : InR p.n) : (plW p).length ≤ 21 := by
  have := itoa_len h
  unfold plW
  simp; omega
theorem lineW_len {x : Mi} (h : x.Ok) : (∀ w ∈ lineW x, w.length ≤ 31) ∧ (lineW x).length ≤ 300010 := by
  have hn := name_len x.op
  have ha := itoa_len h.a
  have hb := itoa_len h.b
  have ht := itoa_len h.trap
  have hd := dec20 h.n
  have hr := row_word x.kind
  have l1 := h.d.1
  have l2 := h.s.1
  have l3 := h.tos.1
  constructor
  · intro w hw
    unfold lineW opsW placesW toW at hw
    simp only [List.mem_cons, List.mem_append] at hw
    rcases hw with rfl | (hw | hw | hw | hw | hw) | hw | hw
    · omega
    · split at hw
      · rw [List.mem_singleton.1 hw]; omega
      · cases hw
    · split at hw
      · rw [List.mem_singleton.1 hw]; omega
      · cases hw
    · split at hw
      · rw [List.mem_singleton.1 hw]; omega
      · cases hw
    · split at hw
      · rw [List.mem_singleton.1 hw]; omega
      · cases hw
    · split at hw
      · rw [List.mem_singleton.1 hw]; omega
      · cases hw
    · split at hw
      · cases hw
      · rcases List.mem_append.1 hw with hw | hw
        · obtain ⟨p, hp, rfl⟩ := List.mem_map.1 hw
          have := plW_len (h.d.2 p hp); omega
        · rcases List.mem_cons.1 hw with rfl | hw
          · simp
          · obtain ⟨p, hp, rfl⟩ := List.mem_map.1 hw
            have := plW_len (h.s.2 p hp); omega
    · split at hw
      · cases hw
      · rcases List.mem_cons.1 hw with rfl | hw
        · simp
        · obtain ⟨p, hp, rfl⟩ := List.mem_map.1 hw
          have := itoa_len (h.tos.2 p hp); omega
  · unfold lineW opsW placesW toW
    simp only [List.length_cons, List.length_append]
    have e : ∀ (b : Bool) (u : List UInt8), (if b = true then [u] else []).length ≤ 1 := fun b u => by cases b <;> simp
    have e1 := e (row x.kind).op (Opc.name x.op)
    have e2 := e (row x.kind).a (Lib.itoa x.a)
    have e3 := e (row x.kind).b (Lib.itoa x.b)
    have e4 := e (row x.kind).n (Lib.decDigits x.n)
    have e5 := e (row x.kind).t (Lib.itoa x.trap)
    have e6 : (if x.d = [] ∧ x.s = [] then ([] : List (List UInt8)) else x.d.map plW ++ [61] :: x.s.map plW).length ≤ x.d.length + x.s.length + 1 := by split <;> simp; omega
    have e7 : (if x.tos = [] then ([] : List (List UInt8)) else [58] :: x.tos.map Lib.itoa).length ≤ x.tos.length + 1 := by split <;> simp
    omega
end Mc
set_option maxHeartbeats 2000000 in
set_option maxRecDepth 100000 in
theorem place_any (p : Pl) (hp : InR p.n) (w : World) (G : Glob w) :
    Calls Tryz.prog 72 #[.agg #[.bool p.slot, .int .i64 p.n]] w fun e w' => e = .returned (.string ⟨(Mc.plW p).toArray⟩) ∧ Below w.heap.size w w' := by
  have HB := Lib.hid ((Below.refl w.heap.size w).alloc (Nat.le_refl _) (.cells #[.bool p.slot, .int .i64 p.n] 64))
  have HI := Lib.hid (fun W (h : Tab W) => itoa_any p.n hp.1 hp.2 W h)
  have hl := Mc.itoa_len hp
  have hx : Mc.plW p = (if p.slot then 115 else 114) :: Lib.itoa p.n := rfl
  obtain ⟨X, hX⟩ : ∃ X, Lib.itoa p.n = X := ⟨_, rfl⟩
  rw [hX] at HI hl hx
  have hlen : ¬ (9223372036854775807 < 1 + X.length) := by omega
  have hc1 : (ByteArray.mk #[115] ++ ByteArray.mk X.toArray) = ByteArray.mk (115 :: X).toArray := cat_mk [115] X
  have hc2 : (ByteArray.mk #[114] ++ ByteArray.mk X.toArray) = ByteArray.mk (114 :: X).toArray := cat_mk [114] X
  have HG := Lib.hid G
  have HX := Lib.hid hx
  obtain ⟨sl, n⟩ := p
  dsimp only at *
  clear hX hl hx G
  rcases sl with _ | _
  all_goals
    go_enter Tryz.func72, Tryz.ntmps72
    go_wp2_with (go_at_call 67; with_reducible refine (HI.out _ (HG.out.below HB.out).tab).mono ?_; rintro e w1 ⟨rfl, hb⟩; have HB1 := Lib.hid (HB.out.trans (hb.mono HB.out.size)); clear hb)
    go_ret
    exact ⟨by rw [HX.out]; rfl, HB1.out⟩
theorem cells6 {W : World} {K : Nat} {t : TypeId} {v0 v1 v2 v3 v4 v5 : Value} (h : Var W K #[v0, v1, v2, v3, v4, v5] t) : W.cell? ⟨K, 0, none⟩ = some v0 ∧ W.cell? ⟨K, 1, none⟩ = some v1 ∧ W.cell? ⟨K, 2, none⟩ = some v2 ∧ W.cell? ⟨K, 3, none⟩ = some v3 ∧ W.cell? ⟨K, 4, none⟩ = some v4 ∧ W.cell? ⟨K, 5, none⟩ = some v5 :=
  ⟨h.cells 0, h.cells 1, h.cells 2, h.cells 3, h.cells 4, h.cells 5⟩
structure LSt (w W : World) (CX : Array Value) (K : Nat) (CR : Array Value) (v : Value) (L : List (List UInt8)) : Prop where
  bel : Below w.heap.size w W
  vx : Var W w.heap.size CX 61
  vr : Var W K CR 143
  own : ∃ A c, v = .slice A L.length c ∧ W.ownsRow w.heap.size 9 1 (.slice A L.length c) L.length (L.flatMap encS)
section
variable {w W W' w2 : World} {CX : Array Value} {K : Nat} {CR : Array Value} {v : Value} {L : List (List UInt8)}
theorem LSt.below (h : LSt w W CX K CR v L) (hb : Below W.heap.size W W') : LSt w W' CX K CR v L := by
  obtain ⟨h1, h2, h3, A, c, rfl, h4⟩ := h
  exact ⟨h1.trans (hb.mono h1.size), var_keep h2 hb, var_keep h3 hb, A, c, rfl, own_belowW h4 hb⟩
theorem LSt.app {A : Option Addr} {c : Nat} (h : LSt w W CX K CR (.slice A L.length c) L) {u : List UInt8} {o : Obj} {A' : Option Addr} {c' : Nat} (own2 : w2.ownsRow w.heap.size 9 1 (.slice A' (L.length + 1) c') (L.length + 1) ((L ++ [u]).flatMap encS)) (hg : (W.alloc o).grownBy w2 (Value.slice A L.length c).ownBlock) :
    LSt w w2 CX K CR (.slice A' (L.length + 1) c') (L ++ [u]) := by
  obtain ⟨h1, h2, h3, A0, c0, e, h4⟩ := h
  cases e
  have hl : (L ++ [u]).length = L.length + 1 := by simp
  exact ⟨vals_step h4 h1 hg, var_grown (h2.alloc o) (h4.alloc o) (by decide) hg, var_grown (h3.alloc o) (h4.alloc o) (by decide) hg, A', c', by rw [hl], by rw [hl]; exact own2⟩
end
set_option maxHeartbeats 40000000 in
set_option maxRecDepth 100000 in
theorem line_any (x : Mi) (hx : x.Ok) (S0 : Nat → Prop) (D : Option Addr) (c1 : Nat) (E : Option Addr) (c2 : Nat) (T : Option Addr) (c3 : Nat) (w : World) (G : GlobM w) (h : MiRd S0 w x D E T) :
    Calls Tryz.prog 33 #[.agg (miV x D c1 E c2 T c3)] w fun e w' => e = .returned (.string ⟨(Mc.line x).toArray⟩) ∧ Below w.heap.size w w' := by
  have ld := hx.d.1
  have ls := hx.s.1
  have lt := hx.tos.1
  have HT := Lib.hid (fun W (G : GlobM W) (h : MiRd S0 W x D E T) => told_any x (by omega) (by omega) (by omega) S0 D c1 E c2 T c3 W G h)
  have HJ : Hid ((Lib.join (Mc.lineW x) [32]).length ≤ 1000000000 ∧ (Mc.lineW x).length ≤ 300010) := Lib.hid (by
    obtain ⟨a1, a2⟩ := Mc.lineW_len hx
    have a3 := Mc.join_len 31 _ a1
    omega)
  have hline : Mc.line x = if Mc.told x then Lib.join (Mc.lineW x) [32] else [] := rfl
  have hwk : Mc.told x = true → Mc.within x.kind 23 = true := fun h => by
    unfold Mc.told Mc.toldA Mc.spare at h
    simp only [Bool.and_eq_true] at h
    exact h.1.1.1.1.1.1.1
  have HN := Lib.hid (fun W (G : Glob W) => oname_in x.op W G)
  have HIA := Lib.hid (fun W (h : Tab W) => itoa_any x.a hx.a.1 hx.a.2 W h)
  have HIB := Lib.hid (fun W (h : Tab W) => itoa_any x.b hx.b.1 hx.b.2 W h)
  have HFN := Lib.hid (fun W (h : Tab W) => formatUint_any x.n hx.n W h)
  have HIT := Lib.hid (fun W (h : Tab W) => itoa_any x.trap hx.trap.1 hx.trap.2 W h)
  have HPD := Lib.hid (fun (i : Nat) (hi : i < x.d.length) W (G : Glob W) => place_any x.d[i] (hx.d.2 _ (List.getElem_mem _)) W G)
  have HPS := Lib.hid (fun (i : Nat) (hi : i < x.s.length) W (G : Glob W) => place_any x.s[i] (hx.s.2 _ (List.getElem_mem _)) W G)
  have HTO := Lib.hid (fun (i : Nat) (hi : i < x.tos.length) W (G : Tab W) => itoa_any x.tos[i] (hx.tos.2 _ (List.getElem_mem _)).1 (hx.tos.2 _ (List.getElem_mem _)).2 W G)
  obtain ⟨td, htd⟩ : ∃ v, Mc.told x = v := ⟨_, rfl⟩
  rw [htd] at HT hline hwk
  obtain ⟨R, hR⟩ : ∃ R, Mc.line x = R := ⟨_, rfl⟩
  rw [hR] at hline ⊢
  obtain ⟨F, hF⟩ : ∃ F, Mc.lineW x = F := ⟨_, rfl⟩
  rw [hF] at hline HJ
  unfold Mc.lineW Mc.opsW Mc.placesW Mc.toW at hF
  clear htd hR hx
  obtain ⟨i0, hi0, hz0, hz1, hz2⟩ := info_parts info_string
  obtain ⟨kind, op, a, b, n, d, s, tos, trap⟩ := x
  have HM := Lib.hid h
  have HG := Lib.hid G
  clear h G
  unfold miV at *
  dsimp only at *
  have HB := Lib.hid ((Below.refl w.heap.size w).alloc (Nat.le_refl _) (.cells #[.int .i64 kind, .int .i64 op, .int .i64 a, .int .i64 b, .int .u64 (n : Int), .slice D d.length c1, .slice E s.length c2, .slice T tos.length c3, .int .i64 trap] 61))
  have HV := Lib.hid (Var.new w #[.int .i64 kind, .int .i64 op, .int .i64 a, .int .i64 b, .int .u64 (n : Int), .slice D d.length c1, .slice E s.length c2, .slice T tos.length c3, .int .i64 trap] 61)
  rcases td with _ | _
  · have HX : Hid (R = []) := Lib.hid hline
    clear hline hwk hF HPD HPS HTO HN HIA HIB HFN HIT
    go_enter Tryz.func33, Tryz.ntmps33
    go_wp2_with (go_at_call 69; with_reducible refine (HT.out _ (HG.out.below HB.out) (HM.out.on HB.out)).mono ?_; rintro e w1 ⟨rfl, hb⟩; have HB1 := Lib.hid (HB.out.trans (hb.mono HB.out.size)); clear hb)
    go_ret
    exact ⟨by rw [HX.out]; rfl, HB1.out⟩
  have HX : Hid (R = Lib.join F [32]) := Lib.hid hline
  obtain ⟨k, rfl, hk23⟩ := within_nat (hwk rfl)
  obtain ⟨⟨rw, ro, ra, rb, rn, rt⟩, hrow⟩ : ∃ r, Mc.row (k : Int) = r := ⟨_, rfl⟩
  rw [hrow] at hF
  dsimp only at hF
  have HAt := Lib.hid (fun W (h : Rws W) => h.at_ hk23)
  rw [hrow] at HAt
  dsimp only at HAt
  have x0 : (0 : Int) ≤ (k : Int) := by omega
  have x1 : (k : Int) < 24 := by omega
  obtain ⟨nm, hnm⟩ : ∃ v, Opc.name op = v := ⟨_, rfl⟩
  obtain ⟨wa, hwa⟩ : ∃ v, Lib.itoa a = v := ⟨_, rfl⟩
  obtain ⟨wb, hwb⟩ : ∃ v, Lib.itoa b = v := ⟨_, rfl⟩
  obtain ⟨wn, hwn⟩ : ∃ v, Lib.decDigits n = v := ⟨_, rfl⟩
  obtain ⟨wt, hwt⟩ : ∃ v, Lib.itoa trap = v := ⟨_, rfl⟩
  rw [hnm] at HN hF
  rw [hwa] at HIA hF
  rw [hwb] at HIB hF
  rw [hwn] at HFN hF
  rw [hwt] at HIT hF
  have HF : Hid ([rw] ++ (((if ro then [nm] else []) ++ ((if ra then [wa] else []) ++ ((if rb then [wb] else []) ++ ((if rn then [wn] else []) ++ (if rt then [wt] else []))))) ++ ((if d = [] ∧ s = [] then [] else d.map Mc.plW ++ [61] :: s.map Mc.plW) ++ (if tos = [] then [] else [58] :: tos.map Lib.itoa))) = F) := Lib.hid hF
  clear hwk hrow hline hF hnm hwa hwb hwn hwt
  go_enter Tryz.func33, Tryz.ntmps33
  go_upto_region 3 with (go_at_call 69; with_reducible refine (HT.out _ (HG.out.below HB.out) (HM.out.on HB.out)).mono ?_; rintro e w1 ⟨rfl, hb⟩; have HB1 := Lib.hid (HB.out.trans (hb.mono HB.out.size)); have V1 := HV.out.below hb (by simp); obtain ⟨a0, a1, a2, a3, a4, a5, a6, a7, a8⟩ := cells9 V1; obtain ⟨r0, r1, r2, r3, r4, r5⟩ := HAt.out _ (HG.out.r.below HB1.out); clear hb)
  have hwK := V1.lt
  have B1 := HB1.out
  have b2 := B1.alloc B1.size (.cells #[.string ⟨rw.toArray⟩, .bool ro, .bool ra, .bool rb, .bool rn, .bool rt] 143)
  have b3 := b2.alloc b2.size (.cells #[.string ⟨rw.toArray⟩] 9)
  go_upto_region 4 with fail
  go_cut [4] from 11 (fun s4 wx => LSt w wx #[.int .i64 (k : Int), .int .i64 op, .int .i64 a, .int .i64 b, .int .u64 (n : Int), .slice D d.length c1, .slice E s.length c2, .slice T tos.length c3, .int .i64 trap] w1.heap.size #[.string ⟨rw.toArray⟩, .bool ro, .bool ra, .bool rb, .bool rn, .bool rt] s4 [rw])
  case first =>
    go_wp2_with fail
    go_meet
    exact ⟨b3, (V1.alloc _).alloc _, (Var.new _ _ _).alloc _, _, _, rfl, (by have h := lit_own2 (enc := encS) (l := [rw]) (e := 9) (cs := #[.string ⟨rw.toArray⟩]) (n := 1) (k := 1) _ b2.size rfl encS_len rfl (by omega); rw [show (w1.alloc (.cells #[.string ⟨rw.toArray⟩, .bool ro, .bool ra, .bool rb, .bool rn, .bool rt] 143)).heap.size = w1.heap.size + 1 by simp] at h; exact h)⟩
  case rest =>
  obtain ⟨K, hK⟩ : ∃ K, w1.heap.size = K := ⟨_, rfl⟩
  rw [hK] at hcut ⊢
  have S := hcut
  clear hcut b2 b3 B1 V1 a0 a1 a2 a3 a4 a5 a6 a7 a8 r0 r1 r2 r3 r4 r5 HB1 HV HB HT HAt x0 x1 hk23 hwK hK
  have hn : ([rw] : List (List UInt8)).length ≤ 1 := by simp
  obtain ⟨L, hL⟩ : ∃ L, ([rw] : List (List UInt8)) = L := ⟨_, rfl⟩
  rw [hL] at S HF hn
  clear hL
  -- ro
  have S' := S
  obtain ⟨-, vx0, vr0, A, c, rfl, hown⟩ := S'
  obtain ⟨a0, a1, a2, a3, a4, a5, a6, a7, a8⟩ := cells9 vx0
  obtain ⟨q0, q1, q2, q3, q4, q5⟩ := cells6 vr0
  have kx := vx0.lt
  have kr := vr0.lt
  go_upto_if 22 with fail
  go_cut [4] from 11 (fun s4 wx => ∃ L, Hid (L ++ (((if ra then [wa] else []) ++ ((if rb then [wb] else []) ++ ((if rn then [wn] else []) ++ (if rt then [wt] else [])))) ++ ((if d = [] ∧ s = [] then [] else d.map Mc.plW ++ [61] :: s.map Mc.plW) ++ (if tos = [] then [] else [58] :: tos.map Lib.itoa))) = F) ∧ L.length ≤ 2 ∧ LSt w wx #[.int .i64 (k : Int), .int .i64 op, .int .i64 a, .int .i64 b, .int .u64 (n : Int), .slice D d.length c1, .slice E s.length c2, .slice T tos.length c3, .int .i64 trap] K #[.string ⟨rw.toArray⟩, .bool ro, .bool ra, .bool rb, .bool rn, .bool rt] s4 L)
  case first =>
    rcases ro with _ | _
    · go_wp2_with fail
      go_meet
      exact ⟨L, Lib.hid (by simpa using HF.out), by omega, S⟩
    · skip
      go_wp2_with (first | (go_at_call 70; with_reducible refine (HN.out _ (HG.out.g.below S.bel)).mono ?_; rintro e w1 ⟨rfl, hb⟩; have S1 := S.below hb; have hown := own_belowW hown hb; clear hb) | (at_builtin; refine app_rs Tryz.underlying116 hi0 hz0 hz1 hz2 rfl (by omega) encS_len encS_one _ rfl (.tmp 23) (.tmp 27) rfl w.heap.size _ L.length L (by rfl) (hown.alloc _) [nm] 1 1 _ rfl (by rfl) (one_str _ _) (by omega) (by omega) (by have := S1.bel.size; simp; omega) ?_; intro A' c' w2 own2 hg; have S2 := S1.app (u := nm) own2 hg; clear hg own2))
      go_meet
      exact ⟨L ++ [nm], Lib.hid (by rw [← HF.out]; simp), by simp; omega, S2⟩
  case rest =>
  clear S vx0 vr0 hown a0 a1 a2 a3 a4 a5 a6 a7 a8 q0 q1 q2 q3 q4 q5 kx kr hn HF
  clear L A c
  obtain ⟨L, HF, hn, S⟩ := hcut
  -- ra
  have S' := S
  obtain ⟨-, vx0, vr0, A, c, rfl, hown⟩ := S'
  obtain ⟨a0, a1, a2, a3, a4, a5, a6, a7, a8⟩ := cells9 vx0
  obtain ⟨q0, q1, q2, q3, q4, q5⟩ := cells6 vr0
  have kx := vx0.lt
  have kr := vr0.lt
  go_upto_if 30 with fail
  go_cut [4] from 11 (fun s4 wx => ∃ L, Hid (L ++ (((if rb then [wb] else []) ++ ((if rn then [wn] else []) ++ (if rt then [wt] else []))) ++ ((if d = [] ∧ s = [] then [] else d.map Mc.plW ++ [61] :: s.map Mc.plW) ++ (if tos = [] then [] else [58] :: tos.map Lib.itoa))) = F) ∧ L.length ≤ 3 ∧ LSt w wx #[.int .i64 (k : Int), .int .i64 op, .int .i64 a, .int .i64 b, .int .u64 (n : Int), .slice D d.length c1, .slice E s.length c2, .slice T tos.length c3, .int .i64 trap] K #[.string ⟨rw.toArray⟩, .bool ro, .bool ra, .bool rb, .bool rn, .bool rt] s4 L)
  case first =>
    rcases ra with _ | _
    · go_wp2_with fail
      go_meet
      exact ⟨L, Lib.hid (by simpa using HF.out), by omega, S⟩
    · skip
      go_wp2_with (first | (go_at_call 67; with_reducible refine (HIA.out _ (HG.out.g.below S.bel).tab).mono ?_; rintro e w1 ⟨rfl, hb⟩; have S1 := S.below hb; have hown := own_belowW hown hb; clear hb) | (at_builtin; refine app_rs Tryz.underlying116 hi0 hz0 hz1 hz2 rfl (by omega) encS_len encS_one _ rfl (.tmp 31) (.tmp 35) rfl w.heap.size _ L.length L (by rfl) (hown.alloc _) [wa] 1 1 _ rfl (by rfl) (one_str _ _) (by omega) (by omega) (by have := S1.bel.size; simp; omega) ?_; intro A' c' w2 own2 hg; have S2 := S1.app (u := wa) own2 hg; clear hg own2))
      go_meet
      exact ⟨L ++ [wa], Lib.hid (by rw [← HF.out]; simp), by simp; omega, S2⟩
  case rest =>
  clear S vx0 vr0 hown a0 a1 a2 a3 a4 a5 a6 a7 a8 q0 q1 q2 q3 q4 q5 kx kr hn HF
  clear L A c
  obtain ⟨L, HF, hn, S⟩ := hcut
  -- rb
  have S' := S
  obtain ⟨-, vx0, vr0, A, c, rfl, hown⟩ := S'
  obtain ⟨a0, a1, a2, a3, a4, a5, a6, a7, a8⟩ := cells9 vx0
  obtain ⟨q0, q1, q2, q3, q4, q5⟩ := cells6 vr0
  have kx := vx0.lt
  have kr := vr0.lt
  go_upto_if 38 with fail
  go_cut [4] from 11 (fun s4 wx => ∃ L, Hid (L ++ (((if rn then [wn] else []) ++ (if rt then [wt] else [])) ++ ((if d = [] ∧ s = [] then [] else d.map Mc.plW ++ [61] :: s.map Mc.plW) ++ (if tos = [] then [] else [58] :: tos.map Lib.itoa))) = F) ∧ L.length ≤ 4 ∧ LSt w wx #[.int .i64 (k : Int), .int .i64 op, .int .i64 a, .int .i64 b, .int .u64 (n : Int), .slice D d.length c1, .slice E s.length c2, .slice T tos.length c3, .int .i64 trap] K #[.string ⟨rw.toArray⟩, .bool ro, .bool ra, .bool rb, .bool rn, .bool rt] s4 L)
  case first =>
    rcases rb with _ | _
    · go_wp2_with fail
      go_meet
      exact ⟨L, Lib.hid (by simpa using HF.out), by omega, S⟩
    · skip
      go_wp2_with (first | (go_at_call 67; with_reducible refine (HIB.out _ (HG.out.g.below S.bel).tab).mono ?_; rintro e w1 ⟨rfl, hb⟩; have S1 := S.below hb; have hown := own_belowW hown hb; clear hb) | (at_builtin; refine app_rs Tryz.underlying116 hi0 hz0 hz1 hz2 rfl (by omega) encS_len encS_one _ rfl (.tmp 39) (.tmp 43) rfl w.heap.size _ L.length L (by rfl) (hown.alloc _) [wb] 1 1 _ rfl (by rfl) (one_str _ _) (by omega) (by omega) (by have := S1.bel.size; simp; omega) ?_; intro A' c' w2 own2 hg; have S2 := S1.app (u := wb) own2 hg; clear hg own2))
      go_meet
      exact ⟨L ++ [wb], Lib.hid (by rw [← HF.out]; simp), by simp; omega, S2⟩
  case rest =>
  clear S vx0 vr0 hown a0 a1 a2 a3 a4 a5 a6 a7 a8 q0 q1 q2 q3 q4 q5 kx kr hn HF
  clear L A c
  obtain ⟨L, HF, hn, S⟩ := hcut
  -- rn
  have S' := S
  obtain ⟨-, vx0, vr0, A, c, rfl, hown⟩ := S'
  obtain ⟨a0, a1, a2, a3, a4, a5, a6, a7, a8⟩ := cells9 vx0
  obtain ⟨q0, q1, q2, q3, q4, q5⟩ := cells6 vr0
  have kx := vx0.lt
  have kr := vr0.lt
  go_upto_if 46 with fail
  go_cut [4] from 11 (fun s4 wx => ∃ L, Hid (L ++ ((if rt then [wt] else []) ++ ((if d = [] ∧ s = [] then [] else d.map Mc.plW ++ [61] :: s.map Mc.plW) ++ (if tos = [] then [] else [58] :: tos.map Lib.itoa))) = F) ∧ L.length ≤ 5 ∧ LSt w wx #[.int .i64 (k : Int), .int .i64 op, .int .i64 a, .int .i64 b, .int .u64 (n : Int), .slice D d.length c1, .slice E s.length c2, .slice T tos.length c3, .int .i64 trap] K #[.string ⟨rw.toArray⟩, .bool ro, .bool ra, .bool rb, .bool rn, .bool rt] s4 L)
  case first =>
    rcases rn with _ | _
    · go_wp2_with fail
      go_meet
      exact ⟨L, Lib.hid (by simpa using HF.out), by omega, S⟩
    · skip
      go_wp2_with (first | (go_at_call 71; with_reducible refine (HFN.out _ (HG.out.g.below S.bel).tab).mono ?_; rintro e w1 ⟨rfl, hb⟩; have S1 := S.below hb; have hown := own_belowW hown hb; clear hb) | (at_builtin; refine app_rs Tryz.underlying116 hi0 hz0 hz1 hz2 rfl (by omega) encS_len encS_one _ rfl (.tmp 47) (.tmp 51) rfl w.heap.size _ L.length L (by rfl) (hown.alloc _) [wn] 1 1 _ rfl (by rfl) (one_str _ _) (by omega) (by omega) (by have := S1.bel.size; simp; omega) ?_; intro A' c' w2 own2 hg; have S2 := S1.app (u := wn) own2 hg; clear hg own2))
      go_meet
      exact ⟨L ++ [wn], Lib.hid (by rw [← HF.out]; simp), by simp; omega, S2⟩
  case rest =>
  clear S vx0 vr0 hown a0 a1 a2 a3 a4 a5 a6 a7 a8 q0 q1 q2 q3 q4 q5 kx kr hn HF
  clear L A c
  obtain ⟨L, HF, hn, S⟩ := hcut
  -- rt
  have S' := S
  obtain ⟨-, vx0, vr0, A, c, rfl, hown⟩ := S'
  obtain ⟨a0, a1, a2, a3, a4, a5, a6, a7, a8⟩ := cells9 vx0
  obtain ⟨q0, q1, q2, q3, q4, q5⟩ := cells6 vr0
  have kx := vx0.lt
  have kr := vr0.lt
  go_upto_if 54 with fail
  go_cut [4] from 11 (fun s4 wx => ∃ L, Hid (L ++ ((if d = [] ∧ s = [] then [] else d.map Mc.plW ++ [61] :: s.map Mc.plW) ++ (if tos = [] then [] else [58] :: tos.map Lib.itoa)) = F) ∧ L.length ≤ 6 ∧ LSt w wx #[.int .i64 (k : Int), .int .i64 op, .int .i64 a, .int .i64 b, .int .u64 (n : Int), .slice D d.length c1, .slice E s.length c2, .slice T tos.length c3, .int .i64 trap] K #[.string ⟨rw.toArray⟩, .bool ro, .bool ra, .bool rb, .bool rn, .bool rt] s4 L)
  case first =>
    rcases rt with _ | _
    · go_wp2_with fail
      go_meet
      exact ⟨L, Lib.hid (by simpa using HF.out), by omega, S⟩
    · skip
      go_wp2_with (first | (go_at_call 67; with_reducible refine (HIT.out _ (HG.out.g.below S.bel).tab).mono ?_; rintro e w1 ⟨rfl, hb⟩; have S1 := S.below hb; have hown := own_belowW hown hb; clear hb) | (at_builtin; refine app_rs Tryz.underlying116 hi0 hz0 hz1 hz2 rfl (by omega) encS_len encS_one _ rfl (.tmp 55) (.tmp 59) rfl w.heap.size _ L.length L (by rfl) (hown.alloc _) [wt] 1 1 _ rfl (by rfl) (one_str _ _) (by omega) (by omega) (by have := S1.bel.size; simp; omega) ?_; intro A' c' w2 own2 hg; have S2 := S1.app (u := wt) own2 hg; clear hg own2))
      go_meet
      exact ⟨L ++ [wt], Lib.hid (by rw [← HF.out]; simp), by simp; omega, S2⟩
  case rest =>
  clear S vx0 vr0 hown a0 a1 a2 a3 a4 a5 a6 a7 a8 q0 q1 q2 q3 q4 q5 kx kr hn HF
  clear L A c
  obtain ⟨L, HF, hn, S⟩ := hcut
  -- the places
  have S' := S
  obtain ⟨-, vx0, vr0, A, c, rfl, hown⟩ := S'
  obtain ⟨a0, a1, a2, a3, a4, a5, a6, a7, a8⟩ := cells9 vx0
  obtain ⟨q0, q1, q2, q3, q4, q5⟩ := cells6 vr0
  have kx := vx0.lt
  have kr := vr0.lt
  go_upto_if 68 with fail
  go_cut [4, 6, 8] from 11 (fun s4 s6 s8 wx => ∃ L, Hid (L ++ (if tos = [] then [] else [58] :: tos.map Lib.itoa) = F) ∧ L.length ≤ 200007 ∧ LSt w wx #[.int .i64 (k : Int), .int .i64 op, .int .i64 a, .int .i64 b, .int .u64 (n : Int), .slice D d.length c1, .slice E s.length c2, .slice T tos.length c3, .int .i64 trap] K #[.string ⟨rw.toArray⟩, .bool ro, .bool ra, .bool rb, .bool rn, .bool rt] s4 L)
  case first =>
    by_cases hds : d = [] ∧ s = []
    · obtain ⟨rfl, rfl⟩ := hds
      go_wp2_with fail
      go_meet
      exact ⟨L, Lib.hid (by simpa using HF.out), by omega, S⟩
    have hp2 : 0 < d.length + s.length := by
      rcases Nat.eq_zero_or_pos (d.length + s.length) with h | h
      · exact absurd ⟨List.eq_nil_of_length_eq_zero (by omega), List.eq_nil_of_length_eq_zero (by omega)⟩ hds
      · exact h
    have hp : (0 : Int) < (d.length : Int) + (s.length : Int) := by omega
    rw [show decide ((0 : Int) < (d.length : Int) + (s.length : Int)) = true from decide_eq_true hp]
    have HF2 : Hid (L ++ (d.map Mc.plW ++ [61] :: s.map Mc.plW ++ (if tos = [] then [] else [58] :: tos.map Lib.itoa)) = F) := Lib.hid (by rw [← HF.out, if_neg hds])
    clear HF hds
    go_wp2_with fail
    go_loopw [4, 72] (fun s4 iv wr => ∃ i : Nat, iv = .int .i64 (i : Int) ∧ i ≤ d.length ∧ LSt w wr #[.int .i64 (k : Int), .int .i64 op, .int .i64 a, .int .i64 b, .int .u64 (n : Int), .slice D d.length c1, .slice E s.length c2, .slice T tos.length c3, .int .i64 trap] K #[.string ⟨rw.toArray⟩, .bool ro, .bool ra, .bool rb, .bool rn, .bool rt] s4 (L ++ (d.take i).map Mc.plW)) (fun _ iv _ => d.length - (intOf iv).toNat)
    case atStart => exact ⟨0, rfl, by omega, by simpa using S⟩
    case round =>
      obtain ⟨i, rfl, hi, S⟩ := hrel
      have S' := S
      obtain ⟨-, vx0, vr0, A, c, rfl, hown⟩ := S'
      obtain ⟨a0, a1, a2, a3, a4, a5, a6, a7, a8⟩ := cells9 vx0
      have kx := vx0.lt
      by_cases hia : i < d.length
      · have x2 : (0 : Int) ≤ (i : Int) := by omega
        have x3 : (i : Int) < (d.length : Int) := by omega
        have HPi := Lib.hid (HPD.out i hia)
        obtain ⟨g, o, rfl, -, -, f0, f1⟩ := (RdP.on HM.out.d S.bel).get hia
        have ht : (d.take (i + 1)).map Mc.plW = (d.take i).map Mc.plW ++ [Mc.plW d[i]] := by rw [List.take_succ_eq_append_getElem hia, List.map_append]; rfl
        obtain ⟨p, hpi⟩ : ∃ p, d[i] = p := ⟨_, rfl⟩
        rw [hpi] at HPi f0 f1 ht
        obtain ⟨M, hM⟩ : ∃ M, L ++ (d.take i).map Mc.plW = M := ⟨_, rfl⟩
        have hMl : M.length ≤ 300000 := by rw [← hM]; simp; omega
        have HNX : Hid (L ++ (d.take (i + 1)).map Mc.plW = M ++ [Mc.plW p]) := Lib.hid (by rw [ht, ← List.append_assoc, hM])
        rw [hM] at S hown ⊢
        obtain ⟨u, hu⟩ : ∃ u, Mc.plW p = u := ⟨_, rfl⟩
        rw [hu] at HPi HNX
        clear hpi hM ht hu
        have hal := fun (o : Obj) => (Below.refl wr.heap.size wr).alloc (Nat.le_refl _) o
        have HAL := Lib.hid hal
        clear hal
        go_wp2_with (first | (go_at_call 72; have S0' := S.below (HAL.out (.cells #[.bool p.slot, .int .i64 p.n] 64)); have hown := own_belowW hown (HAL.out (.cells #[.bool p.slot, .int .i64 p.n] 64)); with_reducible refine (HPi.out _ (HG.out.g.below S0'.bel)).mono ?_; rintro e w1 ⟨rfl, hb⟩; have S1 := S0'.below hb; have hown := own_belowW hown hb; clear hb) | (at_builtin; refine app_rs Tryz.underlying116 hi0 hz0 hz1 hz2 rfl (by omega) encS_len encS_one _ rfl (.tmp 76) (.tmp 79) rfl w.heap.size _ M.length M (by rfl) (hown.alloc _) [u] 1 1 _ rfl (by rfl) (one_str _ _) (by omega) (by omega) (by have := S1.bel.size; simp; omega) ?_; intro A' c' w2 own2 hg; have S2 := S1.app (u := u) own2 hg; clear hg own2))
        go_roundw
        case rel => exact ⟨i + 1, by go_num, by omega, by rw [HNX.out]; exact S2⟩
        case measure => simp [intOf] <;> omega
      · obtain rfl : i = d.length := by omega
        have x3 : ¬ (d.length : Int) < (d.length : Int) := by omega
        rw [List.take_length] at S hown ⊢
        obtain ⟨M, hM⟩ : ∃ M, L ++ d.map Mc.plW = M := ⟨_, rfl⟩
        have hMl : M.length ≤ 100006 := by rw [← hM]; simp; omega
        have HF3 : Hid (M ++ [[61]] ++ (s.map Mc.plW ++ (if tos = [] then [] else [58] :: tos.map Lib.itoa)) = F) := Lib.hid (by rw [← HF2.out, ← hM]; simp)
        rw [hM] at S hown ⊢
        clear hM HF2 hn
        go_upto_region 22 with (at_builtin; refine app_rs Tryz.underlying116 hi0 hz0 hz1 hz2 rfl (by omega) encS_len encS_one _ rfl (.tmp 82) (.tmp 83) rfl w.heap.size _ M.length M (by rfl) (hown.alloc _) [[61]] 1 1 _ rfl (by rfl) (one_str _ _) (by omega) (by omega) (by have := S.bel.size; simp; omega) ?_; intro A' c' w2 own2 hg; have S2 := S.app (u := [61]) own2 hg; clear hg own2)
        have vx2 := S2.vx
        clear S vx0 vr0 hown a0 a1 a2 a3 a4 a5 a6 a7 a8 kx
        obtain ⟨L2, hL2⟩ : ∃ L2, M ++ [[61]] = L2 := ⟨_, rfl⟩
        have hl2 : M.length + 1 = L2.length := by rw [← hL2]; simp
        rw [hL2, hl2] at S2
        rw [hL2] at HF3
        rw [hl2]
        clear hL2
        have S := S2
        clear S2 vx2
        have hn : L2.length ≤ 100007 := by omega
        obtain ⟨a0, a1, a2, a3, a4, a5, a6, a7, a8⟩ := cells9 S.vx
        have kx := S.vx.lt
        go_wp2_with fail
        go_loopw [4, 88] (fun s4 iv wr => ∃ i : Nat, iv = .int .i64 (i : Int) ∧ i ≤ s.length ∧ LSt w wr #[.int .i64 (k : Int), .int .i64 op, .int .i64 a, .int .i64 b, .int .u64 (n : Int), .slice D d.length c1, .slice E s.length c2, .slice T tos.length c3, .int .i64 trap] K #[.string ⟨rw.toArray⟩, .bool ro, .bool ra, .bool rb, .bool rn, .bool rt] s4 (L2 ++ (s.take i).map Mc.plW)) (fun _ iv _ => s.length - (intOf iv).toNat)
        case atStart => exact ⟨0, rfl, by omega, by simpa using S⟩
        case round =>
          obtain ⟨i, rfl, hi, S⟩ := hrel
          have S' := S
          obtain ⟨-, vx0, vr0, A, c, rfl, hown⟩ := S'
          obtain ⟨a0, a1, a2, a3, a4, a5, a6, a7, a8⟩ := cells9 vx0
          have kx := vx0.lt
          by_cases hia : i < s.length
          · have x2 : (0 : Int) ≤ (i : Int) := by omega
            have x3 : (i : Int) < (s.length : Int) := by omega
            have HPi := Lib.hid (HPS.out i hia)
            obtain ⟨g, o, rfl, -, -, f0, f1⟩ := (RdP.on HM.out.s S.bel).get hia
            have ht : (s.take (i + 1)).map Mc.plW = (s.take i).map Mc.plW ++ [Mc.plW s[i]] := by rw [List.take_succ_eq_append_getElem hia, List.map_append]; rfl
            obtain ⟨p, hpi⟩ : ∃ p, s[i] = p := ⟨_, rfl⟩
            rw [hpi] at HPi f0 f1 ht
            obtain ⟨M, hM⟩ : ∃ M, L2 ++ (s.take i).map Mc.plW = M := ⟨_, rfl⟩
            have hMl : M.length ≤ 300000 := by rw [← hM]; simp; omega
            have HNX : Hid (L2 ++ (s.take (i + 1)).map Mc.plW = M ++ [Mc.plW p]) := Lib.hid (by rw [ht, ← List.append_assoc, hM])
            rw [hM] at S hown ⊢
            obtain ⟨u, hu⟩ : ∃ u, Mc.plW p = u := ⟨_, rfl⟩
            rw [hu] at HPi HNX
            clear hpi hM ht hu
            have hal := fun (o : Obj) => (Below.refl wr.heap.size wr).alloc (Nat.le_refl _) o
            have HAL := Lib.hid hal
            clear hal
            go_wp2_with (first | (go_at_call 72; have S0' := S.below (HAL.out (.cells #[.bool p.slot, .int .i64 p.n] 64)); have hown := own_belowW hown (HAL.out (.cells #[.bool p.slot, .int .i64 p.n] 64)); with_reducible refine (HPi.out _ (HG.out.g.below S0'.bel)).mono ?_; rintro e w1 ⟨rfl, hb⟩; have S1 := S0'.below hb; have hown := own_belowW hown hb; clear hb) | (at_builtin; refine app_rs Tryz.underlying116 hi0 hz0 hz1 hz2 rfl (by omega) encS_len encS_one _ rfl (.tmp 92) (.tmp 95) rfl w.heap.size _ M.length M (by rfl) (hown.alloc _) [u] 1 1 _ rfl (by rfl) (one_str _ _) (by omega) (by omega) (by have := S1.bel.size; simp; omega) ?_; intro A' c' w2 own2 hg; have S2 := S1.app (u := u) own2 hg; clear hg own2))
            go_roundw
            case rel => exact ⟨i + 1, by go_num, by omega, by rw [HNX.out]; exact S2⟩
            case measure => simp [intOf] <;> omega
          · obtain rfl : i = s.length := by omega
            have x3 : ¬ (s.length : Int) < (s.length : Int) := by omega
            rw [List.take_length] at S hown ⊢
            obtain ⟨M2, hM2⟩ : ∃ M, L2 ++ s.map Mc.plW = M := ⟨_, rfl⟩
            have hM2l : M2.length ≤ 200007 := by rw [← hM2]; simp; omega
            have HF4 : Hid (M2 ++ (if tos = [] then [] else [58] :: tos.map Lib.itoa) = F) := Lib.hid (by rw [← HF3.out, ← hM2]; simp)
            rw [hM2] at S hown ⊢
            clear hM2
            go_wp2_with fail
            go_meet
            exact ⟨M2, HF4, hM2l, S⟩
  case rest =>
  clear S vx0 vr0 hown a0 a1 a2 a3 a4 a5 a6 a7 a8 q0 q1 q2 q3 q4 q5 kx kr hn HF
  clear L A c
  obtain ⟨L, HF, hn, S⟩ := hcut
  -- the targets
  have S' := S
  obtain ⟨-, vx0, vr0, A, c, rfl, hown⟩ := S'
  obtain ⟨a0, a1, a2, a3, a4, a5, a6, a7, a8⟩ := cells9 vx0
  obtain ⟨q0, q1, q2, q3, q4, q5⟩ := cells6 vr0
  have kx := vx0.lt
  have kr := vr0.lt
  go_upto_if 101 with fail
  go_cut [4, 6, 8, 10] from 11 (fun s4 s6 s8 s10 wx => ∃ L, Hid (L = F) ∧ LSt w wx #[.int .i64 (k : Int), .int .i64 op, .int .i64 a, .int .i64 b, .int .u64 (n : Int), .slice D d.length c1, .slice E s.length c2, .slice T tos.length c3, .int .i64 trap] K #[.string ⟨rw.toArray⟩, .bool ro, .bool ra, .bool rb, .bool rn, .bool rt] s4 L)
  case first =>
    by_cases hto : tos = []
    · subst hto
      go_wp2_with fail
      go_meet
      exact ⟨L, Lib.hid (by simpa using HF.out), S⟩
    have hp : (0 : Int) < (tos.length : Int) := by have := List.length_pos_iff.2 hto; omega
    have hp2 : 0 < tos.length := by omega
    first | rw [show decide ((0 : Int) < (tos.length : Int)) = true from decide_eq_true hp] | rw [show decide (0 < tos.length) = true from decide_eq_true hp2]
    have HF2 : Hid (L ++ [[58]] ++ tos.map Lib.itoa = F) := Lib.hid (by rw [← HF.out, if_neg hto]; simp)
    clear HF hto
    go_upto_region 29 with (at_builtin; refine app_rs Tryz.underlying116 hi0 hz0 hz1 hz2 rfl (by omega) encS_len encS_one _ rfl (.tmp 102) (.tmp 103) rfl w.heap.size _ L.length L (by rfl) (hown.alloc _) [[58]] 1 1 _ rfl (by rfl) (one_str _ _) (by omega) (by omega) (by have := S.bel.size; simp; omega) ?_; intro A' c' w2 own2 hg; have S2 := S.app (u := [58]) own2 hg; clear hg own2)
    clear S vx0 vr0 hown a0 a1 a2 a3 a4 a5 a6 a7 a8 kx kr q0 q1 q2 q3 q4 q5
    obtain ⟨L2, hL2⟩ : ∃ L2, L ++ [[58]] = L2 := ⟨_, rfl⟩
    have hl2 : L.length + 1 = L2.length := by rw [← hL2]; simp
    rw [hL2, hl2] at S2
    rw [hL2] at HF2
    rw [hl2]
    have S := S2
    clear S2 hL2
    have hn2 : L2.length ≤ 200008 := by omega
    obtain ⟨a0, a1, a2, a3, a4, a5, a6, a7, a8⟩ := cells9 S.vx
    have kx := S.vx.lt
    go_wp2_with fail
    go_loopw [4, 108] (fun s4 iv wr => ∃ i : Nat, iv = .int .i64 (i : Int) ∧ i ≤ tos.length ∧ LSt w wr #[.int .i64 (k : Int), .int .i64 op, .int .i64 a, .int .i64 b, .int .u64 (n : Int), .slice D d.length c1, .slice E s.length c2, .slice T tos.length c3, .int .i64 trap] K #[.string ⟨rw.toArray⟩, .bool ro, .bool ra, .bool rb, .bool rn, .bool rt] s4 (L2 ++ (tos.take i).map Lib.itoa)) (fun _ iv _ => tos.length - (intOf iv).toNat)
    case atStart => exact ⟨0, rfl, by omega, by simpa using S⟩
    case round =>
      obtain ⟨i, rfl, hi, S⟩ := hrel
      have S' := S
      obtain ⟨-, vx0, vr0, A, c, rfl, hown⟩ := S'
      obtain ⟨a0, a1, a2, a3, a4, a5, a6, a7, a8⟩ := cells9 vx0
      have kx := vx0.lt
      by_cases hia : i < tos.length
      · have x2 : (0 : Int) ≤ (i : Int) := by omega
        have x3 : (i : Int) < (tos.length : Int) := by omega
        have HPi := Lib.hid (HTO.out i hia)
        obtain ⟨g, o, rfl, -, -, f0'⟩ := (RdZ.on HM.out.t S.bel).get hia
        have f0 : wr.cell? ⟨g, o + i, none⟩ = some (.int .i64 tos[i]) := by simpa [ZAt] using f0'
        have ht : (tos.take (i + 1)).map Lib.itoa = (tos.take i).map Lib.itoa ++ [Lib.itoa tos[i]] := by rw [List.take_succ_eq_append_getElem hia, List.map_append]; rfl
        obtain ⟨p, hpi⟩ : ∃ p, tos[i] = p := ⟨_, rfl⟩
        rw [hpi] at HPi f0 ht
        obtain ⟨M, hM⟩ : ∃ M, L2 ++ (tos.take i).map Lib.itoa = M := ⟨_, rfl⟩
        have hMl : M.length ≤ 400000 := by rw [← hM]; simp; omega
        have HNX : Hid (L2 ++ (tos.take (i + 1)).map Lib.itoa = M ++ [Lib.itoa p]) := Lib.hid (by rw [ht, ← List.append_assoc, hM])
        rw [hM] at S hown ⊢
        obtain ⟨u, hu⟩ : ∃ u, Lib.itoa p = u := ⟨_, rfl⟩
        rw [hu] at HPi HNX
        clear hpi hM ht hu f0'
        go_wp2_with (first | (go_at_call 67; with_reducible refine (HPi.out _ (HG.out.g.below S.bel).tab).mono ?_; rintro e w1 ⟨rfl, hb⟩; have S1 := S.below hb; have hown := own_belowW hown hb; clear hb) | (at_builtin; refine app_rs Tryz.underlying116 hi0 hz0 hz1 hz2 rfl (by omega) encS_len encS_one _ rfl (.tmp 112) (.tmp 115) rfl w.heap.size _ M.length M (by rfl) (hown.alloc _) [u] 1 1 _ rfl (by rfl) (one_str _ _) (by omega) (by omega) (by have := S1.bel.size; simp; omega) ?_; intro A' c' w2 own2 hg; have S2 := S1.app (u := u) own2 hg; clear hg own2))
        go_roundw
        case rel => exact ⟨i + 1, by go_num, by omega, by rw [HNX.out]; exact S2⟩
        case measure => simp [intOf] <;> omega
      · obtain rfl : i = tos.length := by omega
        have x3 : ¬ (tos.length : Int) < (tos.length : Int) := by omega
        rw [List.take_length] at S hown ⊢
        obtain ⟨M2, hM2⟩ : ∃ M, L2 ++ tos.map Lib.itoa = M := ⟨_, rfl⟩
        have HF4 : Hid (M2 = F) := Lib.hid (by rw [← HF2.out, ← hM2])
        rw [hM2] at S hown ⊢
        clear hM2
        go_wp2_with fail
        go_meet
        exact ⟨M2, HF4, S⟩
  case rest =>
  clear S vx0 vr0 hown a0 a1 a2 a3 a4 a5 a6 a7 a8 q0 q1 q2 q3 q4 q5 kx kr hn HF
  clear L A c
  obtain ⟨L, HL, S⟩ := hcut
  obtain ⟨hbel, -, -, A, c, rfl, hown⟩ := S
  obtain rfl := HL.out
  have HBL := Lib.hid hbel
  obtain ⟨j1, j2⟩ := HJ.out
  have HJN := Lib.hid (sjoins_any _ _ _ _ L [32] _ rfl hown (by omega) j1)
  clear hown hbel j1 j2 HJ
  go_wp2_with (go_at_call 73; refine HJN.out.mono ?_; rintro e w1 ⟨rfl, hb⟩; have HB9 := Lib.hid (HBL.out.trans (hb.mono HBL.out.size)); clear hb)
  go_ret
  exact ⟨by rw [HX.out]; rfl, HB9.out⟩
end Go.Proofs.YtadnfekogmjieaaGreatDoor
