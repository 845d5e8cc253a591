/-
  Layer 40: The reference's Same.
-/
import Derived.Test.YtmhmpobjjhbklaaGreatDoorSR5
import Derived.Deep.QuietTactic
import Derived.BigQuiet
import Derived.Test.YtmhmpobjjhbklaaGreatDoorTk
import Derived.Test.YtmhmpobjjhbklaaGreatDoorSO5
set_option linter.unusedVariables false
set_option linter.unusedSimpArgs false
namespace Go.Proofs.YtmhmpobjjhbklaaGreatDoor
open Go.RowKit
open St (InR)

set_option maxHeartbeats 2000000 in
set_option maxRecDepth 100000 in
theorem ints_any (A B : Option Addr) (c d : Nat) (xs ys : List Int) (w : World) (N : Nat) (ha : RdI w N A xs) (hb : RdI w N B ys) (hl : xs.length ≤ 1000000) :
    Calls Tryz.prog 38 #[.slice A xs.length c, .slice B ys.length d] w fun e w' => e = .returned (.bool (decide (xs = ys))) ∧ ∃ q, w' = w.drewN q := by
  by_cases h : xs.length = ys.length
  · obtain ⟨n, hn⟩ : ∃ n, ys.length = n := ⟨_, rfl⟩
    rw [h, hn]
    have han : xs.length = n := h.trans hn
    go_enter Tryz.func38, Tryz.ntmps38
    go_wp2
    go_loopw [5] (fun i wr => ∃ (k q : Nat), k ≤ n ∧ i = .int .i64 k ∧ wr = w.drewN q ∧ Hid (decide (xs = ys) = decide (xs.drop k = ys.drop k))) (fun i _ => n - (intOf i).toNat)
    case atStart => exact ⟨0, 0, by omega, rfl, rfl, by simp [Hid]⟩
    case round =>
      obtain ⟨k, q, hk, rfl, rfl, HR⟩ := hrel
      by_cases hkl : k < n
      · obtain ⟨ad, rfl, _, hcell⟩ := ha.at_ (show k < xs.length by omega)
        obtain ⟨bd, rfl, _, hcelb⟩ := hb.at_ (show k < ys.length by omega)
        obtain ⟨t, ht⟩ : ∃ t, xs[k] = t := ⟨_, rfl⟩
        obtain ⟨u, hu⟩ : ∃ u, ys[k] = u := ⟨_, rfl⟩
        rw [ht] at hcell
        rw [hu] at hcelb
        have hd := drop_eq_cons (by omega) ht
        have hd' := drop_eq_cons (by omega) hu
        have hk0 : (0 : Int) ≤ (k : Int) := Int.natCast_nonneg _
        have hk1 : (k : Int) < (n : Int) := by omega
        rcases hv : (t == u) with _ | _
        · have hf : Hid (decide (xs = ys) = false) := by
            unfold Hid
            rw [HR.out, hd, hd']
            simp at hv ⊢
            intro e; exact absurd e hv
          clear ht hu hd hd'
          go_wp2_with fail
          go_quiet (fail)
          go_wp2
          go_ret
          exact ⟨by rw [hf.out]; rfl, _, by first | rfl | rw [World.drewN_drewN]⟩
        · have hf : Hid (decide (xs = ys) = decide (xs.drop (k + 1) = ys.drop (k + 1))) := by
            unfold Hid
            rw [HR.out, hd, hd']
            simp at hv
            simp [hv]
          clear ht hu hd hd'
          go_wp2_with fail
          go_quiet (fail)
          go_wp2
          go_roundw
          case rel => exact ⟨k + 1, _, by omega, by go_num, by first | rfl | rw [World.drewN_drewN], hf⟩
          case measure => simp [intOf]; omega
      · have hf : Hid (decide (xs = ys) = true) := by unfold Hid; rw [HR.out, List.drop_of_length_le (by omega), List.drop_of_length_le (by omega)]; simp
        go_wp2
        go_ret
        exact ⟨by rw [hf.out]; rfl, _, rfl⟩
  · have hf : Hid (decide (xs = ys) = false) := by unfold Hid; simp; intro e; exact h (by rw [e])
    have g1 : ((xs.length : Int) == (ys.length : Int)) = false := by simp; omega
    go_enter Tryz.func38, Tryz.ntmps38
    go_wp2
    go_ret
    exact ⟨by rw [hf.out]; rfl, 0, rfl⟩
end Go.Proofs.YtmhmpobjjhbklaaGreatDoor
set_option linter.unusedVariables false
set_option linter.unusedSimpArgs false
namespace Go.Proofs.YtmhmpobjjhbklaaGreatDoor
namespace St
def insEq (x y : Ins) : Bool := decide (x.kind = y.kind) && (decide (x.op = y.op) && (decide (x.a = y.a) && (decide (x.b = y.b) && (decide (x.n = y.n) && (decide (x.args = y.args) && decide (x.outs = y.outs))))))
theorem insEq_iff (x y : Ins) : insEq x y = true ↔ x = y := by
  obtain ⟨a, b, c, d, e, f, g⟩ := x
  obtain ⟨a', b', c', d', e', f', g'⟩ := y
  simp [insEq]
def insSame : List Ins → List Ins → Bool
  | [], [] => true
  | x :: a, y :: b => insEq x y && insSame a b
  | _, _ => false
theorem insSame_iff : ∀ a b : List Ins, insSame a b = true ↔ a = b
  | [], [] => by simp [insSame]
  | [], _ :: _ => by simp [insSame]
  | _ :: _, [] => by simp [insSame]
  | x :: a, y :: b => by simp [insSame, insEq_iff, insSame_iff a b]
theorem insSame_len : ∀ a b : List Ins, a.length ≠ b.length → insSame a b = false
  | [], [], h => absurd rfl h
  | [], _ :: _, _ => rfl
  | _ :: _, [], _ => rfl
  | x :: a, y :: b, h => by rw [insSame, insSame_len a b (by simpa using h), Bool.and_false]
end St
open Go.RowKit
open St (InR)
set_option maxHeartbeats 16000000 in
set_option maxRecDepth 100000 in
theorem sameIns_any (S T : Nat → Prop) (A B : Option Addr) (c d : Nat) (la lb : List St.Ins) (w : World) (h1 : RdT w S A 7 (InsAt S) la) (h2 : RdT w T B 7 (InsAt T) lb) (hla : la.length ≤ 1000000) (hok : ∀ x ∈ la, x.args.length ≤ 1000000 ∧ x.outs.length ≤ 1000000) :
    Calls Tryz.prog 39 #[.slice A la.length c, .slice B lb.length d] w fun e w' => e = .returned (.bool (St.insSame la lb)) ∧ Below w.heap.size w w' := by
  by_cases h : la.length = lb.length
  · obtain ⟨n, hn⟩ : ∃ n, lb.length = n := ⟨_, rfl⟩
    rw [h, hn]
    have han : la.length = n := h.trans hn
    obtain ⟨R, hR⟩ : ∃ R, St.insSame la lb = R := ⟨_, rfl⟩
    rw [hR]
    have HR0 : Hid (St.insSame (la.drop 0) (lb.drop 0) = R) := Lib.hid hR
    have H1 := Lib.hid (fun W (hb : Below w.heap.size w W) => RdT.insOn h1 hb)
    have H2 := Lib.hid (fun W (hb : Below w.heap.size w W) => RdT.insOn h2 hb)
    have HOK := Lib.hid hok
    clear h1 h2 hok hR
    go_enter Tryz.func39, Tryz.ntmps39
    go_wp2
    go_loopw [5] (fun iv wr => ∃ (k : Nat), iv = .int .i64 (k : Int) ∧ k ≤ n ∧ Hid (St.insSame (la.drop k) (lb.drop k) = R) ∧ Hid (Below w.heap.size w wr)) (fun iv _ => n - (intOf iv).toNat)
    case atStart => exact ⟨0, rfl, by omega, HR0, Lib.hid (Below.refl _ _)⟩
    case round =>
      clear HR0
      obtain ⟨k, rfl, hk, HR, HB⟩ := hrel
      by_cases hkl : k < n
      · obtain ⟨g, o, rfl, -, hgl, hx⟩ := (H1.out _ HB.out).get (show k < la.length by omega)
        obtain ⟨g2, o2, rfl, -, hgl2, hy⟩ := (H2.out _ HB.out).get (show k < lb.length by omega)
        have hd : la.drop k = la[k] :: la.drop (k + 1) := List.drop_eq_getElem_cons (by omega)
        have hd2 : lb.drop k = lb[k] :: lb.drop (k + 1) := List.drop_eq_getElem_cons (by omega)
        have hok := HOK.out la[k] (List.getElem_mem _)
        have hR := HR.out
        rw [hd, hd2, St.insSame] at hR
        obtain ⟨x, hxx⟩ : ∃ x, la[k] = x := ⟨_, rfl⟩
        obtain ⟨y, hyy⟩ : ∃ y, lb[k] = y := ⟨_, rfl⟩
        rw [hxx] at hx hok hR
        rw [hyy] at hy hR
        clear hxx hyy hd hd2 HR
        obtain ⟨xk, xo, xa, xb, xn, xp, xq⟩ := x
        obtain ⟨yk, yo, ya, yb, yn, yp, yq⟩ := y
        obtain ⟨c0, c1, c2, c3, c4, ⟨Ax, cx, c5, rx⟩, Bx, dx, c6, sx⟩ := hx
        obtain ⟨e0, e1, e2, e3, e4, ⟨Ay, cy, e5, ry⟩, By, dy, e6, sy⟩ := hy
        dsimp only at c0 c1 c2 c3 c4 c5 c6 e0 e1 e2 e3 e4 e5 e6 rx sx ry sy hok
        have x0 : (k : Int) < (n : Int) := by omega
        have x2 : (0 : Int) ≤ (k : Int) := by omega
        go_upto_region 6 with fail
        go_cut [6, 7] from 13 to 75 (fun s6 s7 wx => ∃ K6 K7, s6 = .pointer (some ⟨K6, 0, none⟩) ∧ s7 = .pointer (some ⟨K7, 0, none⟩) ∧ Var wx K6 #[.int .i64 xk, .int .i64 xo, .int .i64 xa, .int .i64 xb, .int .u64 (xn : Int), .slice Ax xp.length cx, .slice Bx xq.length dx] 48 ∧ Var wx K7 #[.int .i64 yk, .int .i64 yo, .int .i64 ya, .int .i64 yb, .int .u64 (yn : Int), .slice Ay yp.length cy, .slice By yq.length dy] 48 ∧ Below wr.heap.size wr wx)
        case first =>
          have SS : (fun w' => w'.cell? ⟨g, o + k * 7, none⟩ = some (.int .i64 xk) ∧ w'.cell? ⟨g, o + k * 7 + 1, none⟩ = some (.int .i64 xo) ∧ w'.cell? ⟨g, o + k * 7 + 2, none⟩ = some (.int .i64 xa) ∧ w'.cell? ⟨g, o + k * 7 + 3, none⟩ = some (.int .i64 xb) ∧ w'.cell? ⟨g, o + k * 7 + 4, none⟩ = some (.int .u64 (xn : Int)) ∧ w'.cell? ⟨g, o + k * 7 + 5, none⟩ = some (.slice Ax xp.length cx) ∧ w'.cell? ⟨g, o + k * 7 + 6, none⟩ = some (.slice Bx xq.length dx) ∧ w'.cell? ⟨g2, o2 + k * 7, none⟩ = some (.int .i64 yk) ∧ w'.cell? ⟨g2, o2 + k * 7 + 1, none⟩ = some (.int .i64 yo) ∧ w'.cell? ⟨g2, o2 + k * 7 + 2, none⟩ = some (.int .i64 ya) ∧ w'.cell? ⟨g2, o2 + k * 7 + 3, none⟩ = some (.int .i64 yb) ∧ w'.cell? ⟨g2, o2 + k * 7 + 4, none⟩ = some (.int .u64 (yn : Int)) ∧ w'.cell? ⟨g2, o2 + k * 7 + 5, none⟩ = some (.slice Ay yp.length cy) ∧ w'.cell? ⟨g2, o2 + k * 7 + 6, none⟩ = some (.slice By yq.length dy)) (World.drew wr) := ⟨c0, c1, c2, c3, c4, c5, c6, e0, e1, e2, e3, e4, e5, e6⟩
          dsimp only at SS
          refine wp_region_held_drew (S := (fun w' => w'.cell? ⟨g, o + k * 7, none⟩ = some (.int .i64 xk) ∧ w'.cell? ⟨g, o + k * 7 + 1, none⟩ = some (.int .i64 xo) ∧ w'.cell? ⟨g, o + k * 7 + 2, none⟩ = some (.int .i64 xa) ∧ w'.cell? ⟨g, o + k * 7 + 3, none⟩ = some (.int .i64 xb) ∧ w'.cell? ⟨g, o + k * 7 + 4, none⟩ = some (.int .u64 (xn : Int)) ∧ w'.cell? ⟨g, o + k * 7 + 5, none⟩ = some (.slice Ax xp.length cx) ∧ w'.cell? ⟨g, o + k * 7 + 6, none⟩ = some (.slice Bx xq.length dx) ∧ w'.cell? ⟨g2, o2 + k * 7, none⟩ = some (.int .i64 yk) ∧ w'.cell? ⟨g2, o2 + k * 7 + 1, none⟩ = some (.int .i64 yo) ∧ w'.cell? ⟨g2, o2 + k * 7 + 2, none⟩ = some (.int .i64 ya) ∧ w'.cell? ⟨g2, o2 + k * 7 + 3, none⟩ = some (.int .i64 yb) ∧ w'.cell? ⟨g2, o2 + k * 7 + 4, none⟩ = some (.int .u64 (yn : Int)) ∧ w'.cell? ⟨g2, o2 + k * 7 + 5, none⟩ = some (.slice Ay yp.length cy) ∧ w'.cell? ⟨g2, o2 + k * 7 + 6, none⟩ = some (.slice By yq.length dy))) (by kernel_rfl) ?_ (fun hHeld0 => ?_)
          · first | assumption | go_keep
          refine tk (i := 0) (oi := ⟨some 19, .move (.tmp 0), 38, "ref.go:472", #[], none⟩) rfl ?_; (try simp only [Act.put, List.setIfInBounds_toArray, List.set_cons_succ, List.set_cons_zero])
          refine tk (i := 1) (oi := ⟨some 20, .move (.tmp 5), 3, "ref.go:472", #[], none⟩) rfl ?_; (try simp only [Act.put, List.setIfInBounds_toArray, List.set_cons_succ, List.set_cons_zero])
          refine tk (i := 2) (oi := ⟨some 21, .indexAddr 38 (.tmp 19) (.tmp 20), 0, "ref.go:472", #[⟨0, .data⟩, ⟨1, .data⟩], none⟩) rfl ?_; (try simp only [Act.put, List.setIfInBounds_toArray, List.set_cons_succ, List.set_cons_zero])
          refine tk (i := 3) (oi := ⟨some 22, .load 48 (.tmp 21), 48, "ref.go:472", #[⟨2, .data⟩], none⟩) rfl ?_; (try simp only [Act.put, List.setIfInBounds_toArray, List.set_cons_succ, List.set_cons_zero])
          refine tk (i := 4) (oi := ⟨some 23, .move (.tmp 1), 38, "ref.go:472", #[{ on := 10, ground := .gcOnly Go.Departure.lateStores }], none⟩) rfl ?_; (try simp only [Act.put, List.setIfInBounds_toArray, List.set_cons_succ, List.set_cons_zero])
          refine tk (i := 5) (oi := ⟨some 24, .move (.tmp 5), 3, "ref.go:472", #[{ on := 10, ground := .gcOnly Go.Departure.lateStores }], none⟩) rfl ?_; (try simp only [Act.put, List.setIfInBounds_toArray, List.set_cons_succ, List.set_cons_zero])
          refine tk (i := 6) (oi := ⟨some 25, .indexAddr 38 (.tmp 23) (.tmp 24), 0, "ref.go:472", #[⟨4, .data⟩, ⟨5, .data⟩, { on := 10, ground := .gcOnly Go.Departure.lateStores }], none⟩) rfl ?_; (try simp only [Act.put, List.setIfInBounds_toArray, List.set_cons_succ, List.set_cons_zero])
          refine tk (i := 7) (oi := ⟨some 26, .load 48 (.tmp 25), 48, "ref.go:472", #[⟨6, .data⟩, { on := 10, ground := .gcOnly Go.Departure.lateStores }], none⟩) rfl ?_; (try simp only [Act.put, List.setIfInBounds_toArray, List.set_cons_succ, List.set_cons_zero])
          refine wpAnyH_ready (rs := [8, 9]) (by kernel_rfl) (by simp) ?_
          refine (AllReadyH.cons (o := ⟨some 6, .alloc 48, 0, "ref.go:472", #[], none⟩) rfl (fun K hK => ?_) (AllReadyH.cons (o := ⟨some 7, .alloc 48, 0, "ref.go:472", #[], none⟩) rfl (fun K hK => ?_) AllReadyH.nil))
          · skip
            go_simp
            skip
            (try dsimp only)
            refine hK.out _ _ ?_ (fun hHeld1 => ?_)
            · first | trivial | ((try dsimp only); first | assumption | trivial | go_keep)
            clear hK K hHeld0
            (try simp only [Act.put, List.setIfInBounds_toArray, List.set_cons_succ, List.set_cons_zero])
            refine wpAnyH_ready (rs := [9]) (by kernel_rfl) (by simp) ?_
            refine (AllReadyH.cons (o := ⟨some 7, .alloc 48, 0, "ref.go:472", #[], none⟩) rfl (fun K hK => ?_) AllReadyH.nil)
            go_simp
            skip
            (try dsimp only)
            refine hK.out _ _ ?_ (fun hHeld2 => ?_)
            · first | trivial | ((try dsimp only); first | assumption | trivial | go_keep)
            clear hK K hHeld1
            (try simp only [Act.put, List.setIfInBounds_toArray, List.set_cons_succ, List.set_cons_zero])
            refine wpAnyH_ready (rs := [10]) (by kernel_rfl) (by simp) ?_
            refine (AllReadyH.cons (o := ⟨none, .store 48 (.tmp 6) (.tmp 22), 0, "ref.go:472", #[⟨8, .data⟩, ⟨3, .data⟩, ⟨0, .phase⟩, ⟨1, .phase⟩, ⟨2, .phase⟩, ⟨3, .phase⟩, { on := 4, ground := .textOnly Go.Departure.lateStores }, { on := 5, ground := .textOnly Go.Departure.lateStores }, { on := 6, ground := .textOnly Go.Departure.lateStores }, { on := 7, ground := .textOnly Go.Departure.lateStores }, ⟨8, .phase⟩, ⟨9, .phase⟩], none⟩) rfl (fun K hK => ?_) AllReadyH.nil)
            go_simp
            skip
            (try dsimp only)
            refine hK.out _ _ ?_ (fun hHeld3 => ?_)
            · first | trivial | ((try dsimp only); first | assumption | trivial | go_keep)
            clear hK K hHeld2
            (try simp only [Act.put, List.setIfInBounds_toArray, List.set_cons_succ, List.set_cons_zero])
            refine wpAnyH_ready (rs := [11]) (by kernel_rfl) (by simp) ?_
            refine (AllReadyH.cons (o := ⟨none, .store 48 (.tmp 7) (.tmp 26), 0, "ref.go:472", #[⟨9, .data⟩, ⟨7, .data⟩, ⟨10, .chain⟩, ⟨0, .phase⟩, ⟨1, .phase⟩, ⟨2, .phase⟩, ⟨3, .phase⟩, ⟨4, .phase⟩, ⟨5, .phase⟩, ⟨6, .phase⟩, ⟨7, .phase⟩, ⟨8, .phase⟩, ⟨9, .phase⟩, ⟨10, .phase⟩], none⟩) rfl (fun K hK => ?_) AllReadyH.nil)
            go_simp
            skip
            (try dsimp only)
            refine hK.out _ _ ?_ (fun hHeld4 => ?_)
            · first | trivial | ((try dsimp only); first | assumption | trivial | go_keep)
            clear hK K hHeld3
            (try simp only [Act.put, List.setIfInBounds_toArray, List.set_cons_succ, List.set_cons_zero])
            refine wpAnyH_done (by kernel_rfl) ?_ _
            go_wp2_with fail
            go_meet
            exact ⟨_, _, rfl, rfl, (Var.new wr #[.int .i64 xk, .int .i64 xo, .int .i64 xa, .int .i64 xb, .int .u64 (xn : Int), .slice Ax xp.length cx, .slice Bx xq.length dx] 48).alloc _, Var.newE (wr.alloc (.cells #[.int .i64 xk, .int .i64 xo, .int .i64 xa, .int .i64 xb, .int .u64 (xn : Int), .slice Ax xp.length cx, .slice Bx xq.length dx] 48)) #[.int .i64 yk, .int .i64 yo, .int .i64 ya, .int .i64 yb, .int .u64 (yn : Int), .slice Ay yp.length cy, .slice By yq.length dy] 48 (by simp), (((Below.refl _ _).alloc (Nat.le_refl _) _).alloc (by simp) _).drew⟩
          · skip
            go_simp
            skip
            (try dsimp only)
            refine hK.out _ _ ?_ (fun hHeld1 => ?_)
            · first | trivial | ((try dsimp only); first | assumption | trivial | go_keep)
            clear hK K hHeld0
            (try simp only [Act.put, List.setIfInBounds_toArray, List.set_cons_succ, List.set_cons_zero])
            refine wpAnyH_ready (rs := [8]) (by kernel_rfl) (by simp) ?_
            refine (AllReadyH.cons (o := ⟨some 6, .alloc 48, 0, "ref.go:472", #[], none⟩) rfl (fun K hK => ?_) AllReadyH.nil)
            go_simp
            skip
            (try dsimp only)
            refine hK.out _ _ ?_ (fun hHeld2 => ?_)
            · first | trivial | ((try dsimp only); first | assumption | trivial | go_keep)
            clear hK K hHeld1
            (try simp only [Act.put, List.setIfInBounds_toArray, List.set_cons_succ, List.set_cons_zero])
            refine wpAnyH_ready (rs := [10]) (by kernel_rfl) (by simp) ?_
            refine (AllReadyH.cons (o := ⟨none, .store 48 (.tmp 6) (.tmp 22), 0, "ref.go:472", #[⟨8, .data⟩, ⟨3, .data⟩, ⟨0, .phase⟩, ⟨1, .phase⟩, ⟨2, .phase⟩, ⟨3, .phase⟩, { on := 4, ground := .textOnly Go.Departure.lateStores }, { on := 5, ground := .textOnly Go.Departure.lateStores }, { on := 6, ground := .textOnly Go.Departure.lateStores }, { on := 7, ground := .textOnly Go.Departure.lateStores }, ⟨8, .phase⟩, ⟨9, .phase⟩], none⟩) rfl (fun K hK => ?_) AllReadyH.nil)
            go_simp
            skip
            (try dsimp only)
            refine hK.out _ _ ?_ (fun hHeld3 => ?_)
            · first | trivial | ((try dsimp only); first | assumption | trivial | go_keep)
            clear hK K hHeld2
            (try simp only [Act.put, List.setIfInBounds_toArray, List.set_cons_succ, List.set_cons_zero])
            refine wpAnyH_ready (rs := [11]) (by kernel_rfl) (by simp) ?_
            refine (AllReadyH.cons (o := ⟨none, .store 48 (.tmp 7) (.tmp 26), 0, "ref.go:472", #[⟨9, .data⟩, ⟨7, .data⟩, ⟨10, .chain⟩, ⟨0, .phase⟩, ⟨1, .phase⟩, ⟨2, .phase⟩, ⟨3, .phase⟩, ⟨4, .phase⟩, ⟨5, .phase⟩, ⟨6, .phase⟩, ⟨7, .phase⟩, ⟨8, .phase⟩, ⟨9, .phase⟩, ⟨10, .phase⟩], none⟩) rfl (fun K hK => ?_) AllReadyH.nil)
            go_simp
            skip
            (try dsimp only)
            refine hK.out _ _ ?_ (fun hHeld4 => ?_)
            · first | trivial | ((try dsimp only); first | assumption | trivial | go_keep)
            clear hK K hHeld3
            (try simp only [Act.put, List.setIfInBounds_toArray, List.set_cons_succ, List.set_cons_zero])
            refine wpAnyH_done (by kernel_rfl) ?_ _
            go_wp2_with fail
            go_meet
            exact ⟨_, _, rfl, rfl, Var.newE (wr.alloc (.cells #[.int .i64 yk, .int .i64 yo, .int .i64 ya, .int .i64 yb, .int .u64 (yn : Int), .slice Ay yp.length cy, .slice By yq.length dy] 48)) #[.int .i64 xk, .int .i64 xo, .int .i64 xa, .int .i64 xb, .int .u64 (xn : Int), .slice Ax xp.length cx, .slice Bx xq.length dx] 48 (by simp), (Var.new wr #[.int .i64 yk, .int .i64 yo, .int .i64 ya, .int .i64 yb, .int .u64 (yn : Int), .slice Ay yp.length cy, .slice By yq.length dy] 48).alloc _, (((Below.refl _ _).alloc (Nat.le_refl _) _).alloc (by simp) _).drew⟩
        case rest =>
        obtain ⟨K6, K7, rfl, rfl, V6, V7, BW⟩ := hcut
        obtain ⟨p0, p1, p2, p3, p4, p5, p6⟩ := cells7 V6
        obtain ⟨r0, r1, r2, r3, r4, r5, r6⟩ := cells7 V7
        have l6 := V6.lt
        have l7 := V7.lt
        have HA := Lib.hid (ints_any Ax Ay cx cy xp yp wc _ (rx.on BW).rds.rdI (ry.on BW).rds.rdI hok.1)
        have HO := Lib.hid (fun q => ints_any Bx By dx dy xq yq (wc.drewN q) _ ((sx.on BW).rds.rdI.drewN q) ((sy.on BW).rds.rdI.drewN q) hok.2)
        have HBW := Lib.hid (HB.out.trans (BW.mono HB.out.size))
        unfold St.insEq at hR
        dsimp only at hR
        clear V6 V7 BW rx ry sx sy c0 c1 c2 c3 c4 c5 c6 e0 e1 e2 e3 e4 e5 e6 hok
        by_cases m0 : ¬ (xk = yk)
        · have HF : Hid (R = false) := Lib.hid (by rw [← hR]; simp [m0])
          clear hR
          go_wp2_with fail
          go_ret
          exact ⟨by rw [HF.out]; rfl, HBW.out⟩
        replace m0 : xk = yk := Decidable.not_not.1 m0
        subst m0
        by_cases m1 : ¬ (xo = yo)
        · have HF : Hid (R = false) := Lib.hid (by rw [← hR]; simp [m1])
          clear hR
          go_wp2_with fail
          go_ret
          exact ⟨by rw [HF.out]; rfl, HBW.out⟩
        replace m1 : xo = yo := Decidable.not_not.1 m1
        subst m1
        by_cases m2 : ¬ (xa = ya)
        · have HF : Hid (R = false) := Lib.hid (by rw [← hR]; simp [m2])
          clear hR
          go_wp2_with fail
          go_ret
          exact ⟨by rw [HF.out]; rfl, HBW.out⟩
        replace m2 : xa = ya := Decidable.not_not.1 m2
        subst m2
        by_cases m3 : ¬ (xb = yb)
        · have HF : Hid (R = false) := Lib.hid (by rw [← hR]; simp [m3])
          clear hR
          go_wp2_with fail
          go_ret
          exact ⟨by rw [HF.out]; rfl, HBW.out⟩
        replace m3 : xb = yb := Decidable.not_not.1 m3
        subst m3
        by_cases m4 : ¬ (xn = yn)
        · have HF : Hid (R = false) := Lib.hid (by rw [← hR]; simp [m4])
          have m5 : ¬ ((xn : Int) = (yn : Int)) := by omega
          clear hR
          go_wp2_with fail
          go_ret
          exact ⟨by rw [HF.out]; rfl, HBW.out⟩
        replace m4 : xn = yn := Decidable.not_not.1 m4
        subst m4
        rcases mp : decide (xp = yp) with _ | _
        · rw [mp] at HA
          have HF : Hid (R = false) := Lib.hid (by rw [← hR, mp]; simp)
          clear hR mp
          go_wp2_with (go_at_call 38; refine HA.out.mono ?_; rintro e w2 ⟨rfl, q, rfl⟩)
          go_ret
          exact ⟨by rw [HF.out]; rfl, HBW.out.trans ((below_drewN wc q).mono HBW.out.size)⟩
        rw [mp] at HA hR
        rcases mq : decide (xq = yq) with _ | _
        · rw [mq] at HO hR
          have HF : Hid (R = false) := Lib.hid (by rw [← hR]; simp)
          clear hR mp mq
          go_wp2_with (first | (go_at_call 38; refine HA.out.mono ?_; clear HA; rintro e w2 ⟨rfl, q, rfl⟩) | (go_at_call 38; refine (HO.out q).mono ?_; clear HO; rintro e w2 ⟨rfl, q2, rfl⟩))
          go_ret
          exact ⟨by rw [HF.out]; rfl, HBW.out.trans ((below_drewN wc _).mono HBW.out.size)⟩
        rw [mq] at HO hR
        have HF : Hid (St.insSame (la.drop (k + 1)) (lb.drop (k + 1)) = R) := Lib.hid (by rw [← hR]; simp)
        clear hR mp mq
        go_wp2_with (first | (go_at_call 38; refine HA.out.mono ?_; clear HA; rintro e w2 ⟨rfl, q, rfl⟩) | (go_at_call 38; refine (HO.out q).mono ?_; clear HO; rintro e w2 ⟨rfl, q2, rfl⟩))
        go_roundw
        case measure => simp [intOf]; omega
        case rel => exact ⟨k + 1, by go_num, by omega, HF, Lib.hid (HBW.out.trans ((below_drewN wc _).mono HBW.out.size))⟩
      · have hk2 : k = n := by omega
        have HF : Hid (R = true) := Lib.hid (by rw [← HR.out, hk2, List.drop_of_length_le (by omega), List.drop_of_length_le (by omega)]; rfl)
        have x0 : ¬ (k : Int) < (n : Int) := by omega
        clear hk2
        go_wp2
        go_ret
        exact ⟨by rw [HF.out]; rfl, HB.out⟩
  · have hf := St.insSame_len la lb h
    have HF := Lib.hid hf
    have g1 : ((la.length : Int) == (lb.length : Int)) = false := by simp; omega
    clear hf
    go_enter Tryz.func39, Tryz.ntmps39
    go_wp2
    go_ret
    exact ⟨by rw [HF.out]; rfl, Below.refl _ _⟩
end Go.Proofs.YtmhmpobjjhbklaaGreatDoor
set_option linter.unusedVariables false
set_option linter.unusedSimpArgs false
namespace Go.Proofs.YtmhmpobjjhbklaaGreatDoor
namespace St
def edSame : List Edge → List Edge → Bool
  | [], [] => true
  | x :: a, y :: b => (decide (x.tgt = y.tgt) && decide (x.args = y.args)) && edSame a b
  | _, _ => false
theorem edSame_iff : ∀ a b : List Edge, edSame a b = true ↔ a = b
  | [], [] => by simp [edSame]
  | [], _ :: _ => by simp [edSame]
  | _ :: _, [] => by simp [edSame]
  | ⟨t, l⟩ :: a, ⟨u, m⟩ :: b => by simp [edSame, edSame_iff a b]
theorem edSame_len : ∀ a b : List Edge, a.length ≠ b.length → edSame a b = false
  | [], [], h => absurd rfl h
  | [], _ :: _, _ => rfl
  | _ :: _, [], _ => rfl
  | x :: a, y :: b, h => by rw [edSame, edSame_len a b (by simpa using h), Bool.and_false]
def finSame (x y : Fin) : Bool := decide (x.kind = y.kind) && (decide (x.cond = y.cond) && (decide (x.trap = y.trap) && (decide (x.args = y.args) && edSame x.edges y.edges)))
theorem finSame_iff (x y : Fin) : finSame x y = true ↔ x = y := by
  obtain ⟨a, b, c, d, e⟩ := x
  obtain ⟨a', b', c', d', e'⟩ := y
  simp [finSame, edSame_iff]
  intro _ _
  exact ⟨fun ⟨h1, h2, h3⟩ => ⟨h2, h3, h1⟩, fun ⟨h1, h2, h3⟩ => ⟨h3, h1, h2⟩⟩
end St
open Go.RowKit
open St (InR)
set_option maxHeartbeats 16000000 in
set_option maxRecDepth 100000 in
theorem sameEnd_any (S T : Nat → Prop) (x y : St.Fin) (Ax Ay Bx By : Option Addr) (cx cy dx dy : Nat) (w : World) (h1 : RdZ w S Ax x.args) (h2 : RdT w S Bx 2 (EdgeAt S) x.edges) (h3 : RdZ w T Ay y.args) (h4 : RdT w T By 2 (EdgeAt T) y.edges) (hxa : x.args.length ≤ 1000000) (hxe : x.edges.length ≤ 1000000) (hok : ∀ e ∈ x.edges, e.args.length ≤ 1000000) :
    Calls Tryz.prog 40 #[finV x Ax cx Bx dx, finV y Ay cy By dy] w fun e w' => e = .returned (.bool (St.finSame x y)) ∧ Below w.heap.size w w' := by
  obtain ⟨R, hR⟩ : ∃ R, St.finSame x y = R := ⟨_, rfl⟩
  rw [hR]
  unfold finV
  unfold St.finSame at hR
  obtain ⟨xk, xc, xa, xe, xt⟩ := x
  obtain ⟨yk, yc, ya, ye, yt⟩ := y
  dsimp only at *
  have hb2 := ((Below.refl w.heap.size w).alloc (Nat.le_refl _) (.cells #[.int .i64 xk, .int .i64 xc, .slice Ax xa.length cx, .slice Bx xe.length dx, .int .i64 xt] 42)).alloc (by simp) (.cells #[.int .i64 yk, .int .i64 yc, .slice Ay ya.length cy, .slice By ye.length dy, .int .i64 yt] 42)
  have HA := Lib.hid (ints_any Ax Ay cx cy xa ya _ _ (h1.on hb2).rds.rdI (h3.on hb2).rds.rdI hxa)
  have H2 := Lib.hid (fun W (hb : Below w.heap.size w W) => RdT.edgeOn h2 hb)
  have H4 := Lib.hid (fun W (hb : Below w.heap.size w W) => RdT.edgeOn h4 hb)
  have HOK := Lib.hid hok
  have HB2 := Lib.hid hb2
  clear h1 h2 h3 h4 hok hb2
  by_cases m0 : ¬ (xk = yk)
  · have HF : Hid (R = false) := Lib.hid (by rw [← hR]; simp [m0])
    clear hR
    go_enter Tryz.func40, Tryz.ntmps40
    go_wp2_with fail
    go_ret
    exact ⟨by rw [HF.out]; rfl, HB2.out⟩
  replace m0 : xk = yk := Decidable.not_not.1 m0
  subst m0
  by_cases m1 : ¬ (xc = yc)
  · have HF : Hid (R = false) := Lib.hid (by rw [← hR]; simp [m1])
    clear hR
    go_enter Tryz.func40, Tryz.ntmps40
    go_wp2_with fail
    go_ret
    exact ⟨by rw [HF.out]; rfl, HB2.out⟩
  replace m1 : xc = yc := Decidable.not_not.1 m1
  subst m1
  by_cases m2 : ¬ (xt = yt)
  · have HF : Hid (R = false) := Lib.hid (by rw [← hR]; simp [m2])
    clear hR
    go_enter Tryz.func40, Tryz.ntmps40
    go_wp2_with fail
    go_ret
    exact ⟨by rw [HF.out]; rfl, HB2.out⟩
  replace m2 : xt = yt := Decidable.not_not.1 m2
  subst m2
  rcases mp : decide (xa = ya) with _ | _
  · rw [mp] at HA
    have HF : Hid (R = false) := Lib.hid (by rw [← hR, mp]; simp)
    clear hR mp
    go_enter Tryz.func40, Tryz.ntmps40
    go_wp2_with (go_at_call 38; refine HA.out.mono ?_; rintro e w2 ⟨rfl, q, rfl⟩)
    go_ret
    exact ⟨by rw [HF.out]; rfl, HB2.out.trans ((below_drewN _ q).mono HB2.out.size)⟩
  rw [mp] at HA hR
  clear mp
  by_cases hl : ¬ (xe.length = ye.length)
  · have HF : Hid (R = false) := Lib.hid (by rw [← hR, St.edSame_len xe ye hl]; simp)
    have g1 : ((xe.length : Int) == (ye.length : Int)) = false := by simp; omega
    clear hR
    go_enter Tryz.func40, Tryz.ntmps40
    go_wp2_with (go_at_call 38; refine HA.out.mono ?_; rintro e w2 ⟨rfl, q, rfl⟩)
    go_ret
    exact ⟨by rw [HF.out]; rfl, HB2.out.trans ((below_drewN _ q).mono HB2.out.size)⟩
  replace hl : xe.length = ye.length := Decidable.not_not.1 hl
  obtain ⟨n, hn⟩ : ∃ n, ye.length = n := ⟨_, rfl⟩
  have hxn : xe.length = n := hl.trans hn
  rw [hxn, hn] at HA HB2
  rw [hxn, hn]
  have HR0 : Hid (St.edSame (xe.drop 0) (ye.drop 0) = R) := Lib.hid (by rw [← hR]; simp)
  clear hR
  have V2 := (Var.new w #[.int .i64 xk, .int .i64 xc, .slice Ax xa.length cx, .slice Bx n dx, .int .i64 xt] 42).alloc (.cells #[.int .i64 xk, .int .i64 xc, .slice Ay ya.length cy, .slice By n dy, .int .i64 xt] 42)
  have V3 := Var.newE (w.alloc (.cells #[.int .i64 xk, .int .i64 xc, .slice Ax xa.length cx, .slice Bx n dx, .int .i64 xt] 42)) #[.int .i64 xk, .int .i64 xc, .slice Ay ya.length cy, .slice By n dy, .int .i64 xt] 42 (K := w.heap.size + 1) (by simp)
  go_enter Tryz.func40, Tryz.ntmps40
  go_upto_region 3 with (go_at_call 38; refine HA.out.mono ?_; rintro e w2 ⟨rfl, q, rfl⟩)
  refine at_code (F := fun W => Var W w.heap.size #[.int .i64 xk, .int .i64 xc, .slice Ax xa.length cx, .slice Bx n dx, .int .i64 xt] 42 ∧ Var W (w.heap.size + 1) #[.int .i64 xk, .int .i64 xc, .slice Ay ya.length cy, .slice By n dy, .int .i64 xt] 42 ∧ Below w.heap.size w W) ⟨V2.below (below_drewN _ q) V2.lt, V3.below (below_drewN _ q) V3.lt, HB2.out.trans ((below_drewN _ q).mono HB2.out.size)⟩ ?_
  clear V2 V3 HA HB2
  obtain ⟨K2, hK2⟩ : ∃ K, w.heap.size = K := ⟨_, rfl⟩
  have HK := Lib.hid hK2
  simp only [hK2]
  clear hK2
  obtain ⟨K3, hK3⟩ : ∃ K, K2 + 1 = K := ⟨_, rfl⟩
  simp only [hK3]
  clear hK3
  rintro W0 ⟨V2, V3, B0⟩
  go_wp2_with fail
  go_loopw [5] (fun iv wr => ∃ (k : Nat), iv = .int .i64 (k : Int) ∧ k ≤ n ∧ Hid (St.edSame (xe.drop k) (ye.drop k) = R) ∧ Hid (Below w.heap.size w wr) ∧ Hid (Var wr K2 #[.int .i64 xk, .int .i64 xc, .slice Ax xa.length cx, .slice Bx n dx, .int .i64 xt] 42) ∧ Hid (Var wr K3 #[.int .i64 xk, .int .i64 xc, .slice Ay ya.length cy, .slice By n dy, .int .i64 xt] 42)) (fun iv _ => n - (intOf iv).toNat)
  case atStart => exact ⟨0, rfl, by omega, HR0, Lib.hid (by rw [HK.out]; exact B0), Lib.hid V2, Lib.hid V3⟩
  case round =>
    clear HR0 V2 V3 B0
    obtain ⟨k, rfl, hk, HR, HB, V2, V3⟩ := hrel
    obtain ⟨p0, p1, p2, p3, p4⟩ := cells5 V2.out
    obtain ⟨q0, q1, q2, q3, q4⟩ := cells5 V3.out
    by_cases hkl : k < n
    · obtain ⟨g, o, rfl, -, hgl, hx⟩ := (H2.out _ HB.out).get (show k < xe.length by omega)
      obtain ⟨g2, o2, rfl, -, hgl2, hy⟩ := (H4.out _ HB.out).get (show k < ye.length by omega)
      have hd : xe.drop k = xe[k] :: xe.drop (k + 1) := List.drop_eq_getElem_cons (by omega)
      have hd2 : ye.drop k = ye[k] :: ye.drop (k + 1) := List.drop_eq_getElem_cons (by omega)
      have hok := HOK.out xe[k] (List.getElem_mem _)
      have hR := HR.out
      rw [hd, hd2, St.edSame] at hR
      obtain ⟨x, hxx⟩ : ∃ x, xe[k] = x := ⟨_, rfl⟩
      obtain ⟨y, hyy⟩ : ∃ y, ye[k] = y := ⟨_, rfl⟩
      rw [hxx] at hx hok hR
      rw [hyy] at hy hR
      clear hxx hyy hd hd2 HR
      obtain ⟨xg, xs⟩ := x
      obtain ⟨yg, ys⟩ := y
      obtain ⟨c0, Ex, ex, c1, rx⟩ := hx
      obtain ⟨e0, Ey, ey, e1, ry⟩ := hy
      dsimp only at c0 c1 e0 e1 rx ry hok hR
      have x0 : (k : Int) < (n : Int) := by omega
      have x2 : (0 : Int) ≤ (k : Int) := by omega
      have hIn := ints_any Ex Ey ex ey xs ys (World.drew wr) _ ((rx.on (below_drewN wr 1)).rds.rdI) ((ry.on (below_drewN wr 1)).rds.rdI) hok
      have HIn := Lib.hid hIn
      have HBD : Hid (Below w.heap.size w (World.drew wr)) := Lib.hid (HB.out.trans ((below_drewN wr 1).mono HB.out.size))
      have VD2 : Hid (Var (World.drew wr) K2 #[.int .i64 xk, .int .i64 xc, .slice Ax xa.length cx, .slice (some ⟨g, o, none⟩) n dx, .int .i64 xt] 42) := V2
      have VD3 : Hid (Var (World.drew wr) K3 #[.int .i64 xk, .int .i64 xc, .slice Ay ya.length cy, .slice (some ⟨g2, o2, none⟩) n dy, .int .i64 xt] 42) := V3
      clear hIn rx ry hok
      go_upto_region 6 with fail
      have SS : (fun w' => w'.cell? ⟨K2, 3, none⟩ = some (.slice (some ⟨g, o, none⟩) n dx) ∧ w'.cell? ⟨K3, 3, none⟩ = some (.slice (some ⟨g2, o2, none⟩) n dy) ∧ w'.cell? ⟨g, o + k * 2, none⟩ = some (.int .i64 xg) ∧ w'.cell? ⟨g, o + k * 2 + 1, none⟩ = some (.slice Ex xs.length ex) ∧ w'.cell? ⟨g2, o2 + k * 2, none⟩ = some (.int .i64 yg) ∧ w'.cell? ⟨g2, o2 + k * 2 + 1, none⟩ = some (.slice Ey ys.length ey)) (World.drew wr) := ⟨p3, q3, c0, c1, e0, e1⟩
      dsimp only at SS
      by_cases mg : ¬ (xg = yg)
      · have HF : Hid (R = false) := Lib.hid (by rw [← hR]; simp [mg])
        have mg2 : (xg == yg) = false := by simpa using mg
        have mg3 : (xg != yg) = true := by simpa using mg
        have mg4 : decide (xg = yg) = false := by simpa using mg
        clear hR
        refine wp_region_held_drew (S := (fun w' => w'.cell? ⟨K2, 3, none⟩ = some (.slice (some ⟨g, o, none⟩) n dx) ∧ w'.cell? ⟨K3, 3, none⟩ = some (.slice (some ⟨g2, o2, none⟩) n dy) ∧ w'.cell? ⟨g, o + k * 2, none⟩ = some (.int .i64 xg) ∧ w'.cell? ⟨g, o + k * 2 + 1, none⟩ = some (.slice Ex xs.length ex) ∧ w'.cell? ⟨g2, o2 + k * 2, none⟩ = some (.int .i64 yg) ∧ w'.cell? ⟨g2, o2 + k * 2 + 1, none⟩ = some (.slice Ey ys.length ey))) (by kernel_rfl) ?_ (fun hHeld0 => ?_)
        · first | assumption | go_keep
        refine tk (i := 0) (oi := ⟨some 49, .fieldAddr 42 (.tmp 2) 3, 0, "ref.go:486", #[], none⟩) rfl ?_; (try simp only [Act.put, List.setIfInBounds_toArray, List.set_cons_succ, List.set_cons_zero])
        refine tk (i := 1) (oi := ⟨some 50, .load 39 (.tmp 49), 39, "ref.go:486", #[⟨0, .data⟩], none⟩) rfl ?_; (try simp only [Act.put, List.setIfInBounds_toArray, List.set_cons_succ, List.set_cons_zero])
        refine tk (i := 2) (oi := ⟨some 51, .move (.tmp 5), 3, "ref.go:486", #[], none⟩) rfl ?_; (try simp only [Act.put, List.setIfInBounds_toArray, List.set_cons_succ, List.set_cons_zero])
        refine tk (i := 3) (oi := ⟨some 52, .indexAddr 39 (.tmp 50) (.tmp 51), 0, "ref.go:486", #[⟨1, .data⟩, ⟨2, .data⟩], none⟩) rfl ?_; (try simp only [Act.put, List.setIfInBounds_toArray, List.set_cons_succ, List.set_cons_zero])
        refine tk (i := 4) (oi := ⟨some 53, .fieldAddr 50 (.tmp 52) 0, 0, "ref.go:486", #[⟨3, .data⟩], none⟩) rfl ?_; (try simp only [Act.put, List.setIfInBounds_toArray, List.set_cons_succ, List.set_cons_zero])
        refine tk (i := 5) (oi := ⟨some 54, .load 3 (.tmp 53), 3, "ref.go:486", #[⟨4, .data⟩], none⟩) rfl ?_; (try simp only [Act.put, List.setIfInBounds_toArray, List.set_cons_succ, List.set_cons_zero])
        refine tk (i := 6) (oi := ⟨some 55, .fieldAddr 42 (.tmp 3) 3, 0, "ref.go:486", #[], none⟩) rfl ?_; (try simp only [Act.put, List.setIfInBounds_toArray, List.set_cons_succ, List.set_cons_zero])
        refine tk (i := 7) (oi := ⟨some 56, .load 39 (.tmp 55), 39, "ref.go:486", #[⟨6, .data⟩], none⟩) rfl ?_; (try simp only [Act.put, List.setIfInBounds_toArray, List.set_cons_succ, List.set_cons_zero])
        refine tk (i := 8) (oi := ⟨some 57, .move (.tmp 5), 3, "ref.go:486", #[], none⟩) rfl ?_; (try simp only [Act.put, List.setIfInBounds_toArray, List.set_cons_succ, List.set_cons_zero])
        refine tk (i := 9) (oi := ⟨some 58, .indexAddr 39 (.tmp 56) (.tmp 57), 0, "ref.go:486", #[⟨7, .data⟩, ⟨8, .data⟩], none⟩) rfl ?_; (try simp only [Act.put, List.setIfInBounds_toArray, List.set_cons_succ, List.set_cons_zero])
        refine tk (i := 10) (oi := ⟨some 59, .fieldAddr 50 (.tmp 58) 0, 0, "ref.go:486", #[⟨9, .data⟩], none⟩) rfl ?_; (try simp only [Act.put, List.setIfInBounds_toArray, List.set_cons_succ, List.set_cons_zero])
        refine tk (i := 11) (oi := ⟨some 60, .load 3 (.tmp 59), 3, "ref.go:486", #[⟨10, .data⟩], none⟩) rfl ?_; (try simp only [Act.put, List.setIfInBounds_toArray, List.set_cons_succ, List.set_cons_zero])
        refine tk (i := 12) (oi := ⟨some 61, .binOp .neq 3 (.tmp 54) (.tmp 60) 3, 4, "ref.go:486", #[⟨5, .data⟩, ⟨11, .data⟩], none⟩) rfl ?_; (try simp only [Act.put, List.setIfInBounds_toArray, List.set_cons_succ, List.set_cons_zero])
        refine tk (i := 13) (oi := ⟨some 62, .move (.tmp 61), 4, "ref.go:486", #[⟨12, .data⟩], none⟩) rfl ?_; (try simp only [Act.put, List.setIfInBounds_toArray, List.set_cons_succ, List.set_cons_zero])
        refine tkN (i := 14) (oi := ⟨some 63, .fieldAddr 42 (.tmp 2) 3, 0, "ref.go:486", #[⟨13, .guard⟩], some (13, false)⟩) rfl ?_; (try simp only [Act.put, List.setIfInBounds_toArray, List.set_cons_succ, List.set_cons_zero])
        refine tkN (i := 15) (oi := ⟨some 64, .load 39 (.tmp 63), 39, "ref.go:486", #[⟨14, .data⟩, ⟨13, .guard⟩], some (13, false)⟩) rfl ?_; (try simp only [Act.put, List.setIfInBounds_toArray, List.set_cons_succ, List.set_cons_zero])
        refine tkN (i := 16) (oi := ⟨some 65, .move (.tmp 5), 3, "ref.go:486", #[⟨13, .guard⟩], some (13, false)⟩) rfl ?_; (try simp only [Act.put, List.setIfInBounds_toArray, List.set_cons_succ, List.set_cons_zero])
        refine tkN (i := 17) (oi := ⟨some 66, .indexAddr 39 (.tmp 64) (.tmp 65), 0, "ref.go:486", #[⟨15, .data⟩, ⟨16, .data⟩, ⟨13, .guard⟩], some (13, false)⟩) rfl ?_; (try simp only [Act.put, List.setIfInBounds_toArray, List.set_cons_succ, List.set_cons_zero])
        refine tkN (i := 18) (oi := ⟨some 67, .fieldAddr 50 (.tmp 66) 1, 0, "ref.go:486", #[⟨17, .data⟩, ⟨13, .guard⟩], some (13, false)⟩) rfl ?_; (try simp only [Act.put, List.setIfInBounds_toArray, List.set_cons_succ, List.set_cons_zero])
        refine tkN (i := 19) (oi := ⟨some 68, .load 37 (.tmp 67), 37, "ref.go:486", #[⟨18, .data⟩, ⟨13, .guard⟩], some (13, false)⟩) rfl ?_; (try simp only [Act.put, List.setIfInBounds_toArray, List.set_cons_succ, List.set_cons_zero])
        refine tkN (i := 20) (oi := ⟨some 69, .fieldAddr 42 (.tmp 3) 3, 0, "ref.go:486", #[⟨13, .guard⟩], some (13, false)⟩) rfl ?_; (try simp only [Act.put, List.setIfInBounds_toArray, List.set_cons_succ, List.set_cons_zero])
        refine tkN (i := 21) (oi := ⟨some 70, .load 39 (.tmp 69), 39, "ref.go:486", #[⟨20, .data⟩, ⟨13, .guard⟩], some (13, false)⟩) rfl ?_; (try simp only [Act.put, List.setIfInBounds_toArray, List.set_cons_succ, List.set_cons_zero])
        refine tkN (i := 22) (oi := ⟨some 71, .move (.tmp 5), 3, "ref.go:486", #[⟨13, .guard⟩], some (13, false)⟩) rfl ?_; (try simp only [Act.put, List.setIfInBounds_toArray, List.set_cons_succ, List.set_cons_zero])
        refine tkN (i := 23) (oi := ⟨some 72, .indexAddr 39 (.tmp 70) (.tmp 71), 0, "ref.go:486", #[⟨21, .data⟩, ⟨22, .data⟩, ⟨13, .guard⟩], some (13, false)⟩) rfl ?_; (try simp only [Act.put, List.setIfInBounds_toArray, List.set_cons_succ, List.set_cons_zero])
        refine tkN (i := 24) (oi := ⟨some 73, .fieldAddr 50 (.tmp 72) 1, 0, "ref.go:486", #[⟨23, .data⟩, ⟨13, .guard⟩], some (13, false)⟩) rfl ?_; (try simp only [Act.put, List.setIfInBounds_toArray, List.set_cons_succ, List.set_cons_zero])
        refine tkN (i := 25) (oi := ⟨some 74, .load 37 (.tmp 73), 37, "ref.go:486", #[⟨24, .data⟩, ⟨13, .guard⟩], some (13, false)⟩) rfl ?_; (try simp only [Act.put, List.setIfInBounds_toArray, List.set_cons_succ, List.set_cons_zero])
        refine tkN (i := 26) (oi := ⟨some 75, .call { callee := .value (.func 38), args := #[.tmp 68, .tmp 74], argTypes := #[37, 37] }, 4, "ref.go:486", #[⟨19, .data⟩, ⟨25, .data⟩, ⟨13, .chain⟩, ⟨13, .guard⟩], some (13, false)⟩) rfl ?_; (try simp only [Act.put, List.setIfInBounds_toArray, List.set_cons_succ, List.set_cons_zero])
        refine tkN (i := 27) (oi := ⟨some 76, .unOp .not 4 (.tmp 75), 4, "ref.go:486", #[⟨26, .data⟩, ⟨13, .guard⟩], some (13, false)⟩) rfl ?_; (try simp only [Act.put, List.setIfInBounds_toArray, List.set_cons_succ, List.set_cons_zero])
        refine tk (i := 28) (oi := ⟨some 77, .pick (.tmp 62) (.const (.bool true)) (.tmp 76), 4, "ref.go:486", #[⟨13, .data⟩, ⟨27, .data⟩], none⟩) rfl ?_; (try simp only [Act.put, List.setIfInBounds_toArray, List.set_cons_succ, List.set_cons_zero])
        refine wpAnyH_done (by kernel_rfl) ?_ _
        go_wp2_with fail
        go_ret
        exact ⟨by rw [HF.out]; rfl, HBD.out⟩
      replace mg : xg = yg := Decidable.not_not.1 mg
      subst mg
      rcases ms : decide (xs = ys) with _ | _
      · rw [ms] at HIn
        have HF : Hid (R = false) := Lib.hid (by rw [← hR, ms]; simp)
        clear hR ms
        refine wp_region_held_drew (S := (fun w' => w'.cell? ⟨K2, 3, none⟩ = some (.slice (some ⟨g, o, none⟩) n dx) ∧ w'.cell? ⟨K3, 3, none⟩ = some (.slice (some ⟨g2, o2, none⟩) n dy) ∧ w'.cell? ⟨g, o + k * 2, none⟩ = some (.int .i64 xg) ∧ w'.cell? ⟨g, o + k * 2 + 1, none⟩ = some (.slice Ex xs.length ex) ∧ w'.cell? ⟨g2, o2 + k * 2, none⟩ = some (.int .i64 xg) ∧ w'.cell? ⟨g2, o2 + k * 2 + 1, none⟩ = some (.slice Ey ys.length ey))) (by kernel_rfl) ?_ (fun hHeld0 => ?_)
        · first | assumption | go_keep
        refine tk (i := 0) (oi := ⟨some 49, .fieldAddr 42 (.tmp 2) 3, 0, "ref.go:486", #[], none⟩) rfl ?_; (try simp only [Act.put, List.setIfInBounds_toArray, List.set_cons_succ, List.set_cons_zero])
        refine tk (i := 1) (oi := ⟨some 50, .load 39 (.tmp 49), 39, "ref.go:486", #[⟨0, .data⟩], none⟩) rfl ?_; (try simp only [Act.put, List.setIfInBounds_toArray, List.set_cons_succ, List.set_cons_zero])
        refine tk (i := 2) (oi := ⟨some 51, .move (.tmp 5), 3, "ref.go:486", #[], none⟩) rfl ?_; (try simp only [Act.put, List.setIfInBounds_toArray, List.set_cons_succ, List.set_cons_zero])
        refine tk (i := 3) (oi := ⟨some 52, .indexAddr 39 (.tmp 50) (.tmp 51), 0, "ref.go:486", #[⟨1, .data⟩, ⟨2, .data⟩], none⟩) rfl ?_; (try simp only [Act.put, List.setIfInBounds_toArray, List.set_cons_succ, List.set_cons_zero])
        refine tk (i := 4) (oi := ⟨some 53, .fieldAddr 50 (.tmp 52) 0, 0, "ref.go:486", #[⟨3, .data⟩], none⟩) rfl ?_; (try simp only [Act.put, List.setIfInBounds_toArray, List.set_cons_succ, List.set_cons_zero])
        refine tk (i := 5) (oi := ⟨some 54, .load 3 (.tmp 53), 3, "ref.go:486", #[⟨4, .data⟩], none⟩) rfl ?_; (try simp only [Act.put, List.setIfInBounds_toArray, List.set_cons_succ, List.set_cons_zero])
        refine tk (i := 6) (oi := ⟨some 55, .fieldAddr 42 (.tmp 3) 3, 0, "ref.go:486", #[], none⟩) rfl ?_; (try simp only [Act.put, List.setIfInBounds_toArray, List.set_cons_succ, List.set_cons_zero])
        refine tk (i := 7) (oi := ⟨some 56, .load 39 (.tmp 55), 39, "ref.go:486", #[⟨6, .data⟩], none⟩) rfl ?_; (try simp only [Act.put, List.setIfInBounds_toArray, List.set_cons_succ, List.set_cons_zero])
        refine tk (i := 8) (oi := ⟨some 57, .move (.tmp 5), 3, "ref.go:486", #[], none⟩) rfl ?_; (try simp only [Act.put, List.setIfInBounds_toArray, List.set_cons_succ, List.set_cons_zero])
        refine tk (i := 9) (oi := ⟨some 58, .indexAddr 39 (.tmp 56) (.tmp 57), 0, "ref.go:486", #[⟨7, .data⟩, ⟨8, .data⟩], none⟩) rfl ?_; (try simp only [Act.put, List.setIfInBounds_toArray, List.set_cons_succ, List.set_cons_zero])
        refine tk (i := 10) (oi := ⟨some 59, .fieldAddr 50 (.tmp 58) 0, 0, "ref.go:486", #[⟨9, .data⟩], none⟩) rfl ?_; (try simp only [Act.put, List.setIfInBounds_toArray, List.set_cons_succ, List.set_cons_zero])
        refine tk (i := 11) (oi := ⟨some 60, .load 3 (.tmp 59), 3, "ref.go:486", #[⟨10, .data⟩], none⟩) rfl ?_; (try simp only [Act.put, List.setIfInBounds_toArray, List.set_cons_succ, List.set_cons_zero])
        refine tk (i := 12) (oi := ⟨some 61, .binOp .neq 3 (.tmp 54) (.tmp 60) 3, 4, "ref.go:486", #[⟨5, .data⟩, ⟨11, .data⟩], none⟩) rfl ?_; (try simp only [Act.put, List.setIfInBounds_toArray, List.set_cons_succ, List.set_cons_zero])
        refine tk (i := 13) (oi := ⟨some 62, .move (.tmp 61), 4, "ref.go:486", #[⟨12, .data⟩], none⟩) rfl ?_; (try simp only [Act.put, List.setIfInBounds_toArray, List.set_cons_succ, List.set_cons_zero])
        refine tk (i := 14) (oi := ⟨some 63, .fieldAddr 42 (.tmp 2) 3, 0, "ref.go:486", #[⟨13, .guard⟩], some (13, false)⟩) rfl ?_; (try simp only [Act.put, List.setIfInBounds_toArray, List.set_cons_succ, List.set_cons_zero])
        refine tk (i := 15) (oi := ⟨some 64, .load 39 (.tmp 63), 39, "ref.go:486", #[⟨14, .data⟩, ⟨13, .guard⟩], some (13, false)⟩) rfl ?_; (try simp only [Act.put, List.setIfInBounds_toArray, List.set_cons_succ, List.set_cons_zero])
        refine tk (i := 16) (oi := ⟨some 65, .move (.tmp 5), 3, "ref.go:486", #[⟨13, .guard⟩], some (13, false)⟩) rfl ?_; (try simp only [Act.put, List.setIfInBounds_toArray, List.set_cons_succ, List.set_cons_zero])
        refine tk (i := 17) (oi := ⟨some 66, .indexAddr 39 (.tmp 64) (.tmp 65), 0, "ref.go:486", #[⟨15, .data⟩, ⟨16, .data⟩, ⟨13, .guard⟩], some (13, false)⟩) rfl ?_; (try simp only [Act.put, List.setIfInBounds_toArray, List.set_cons_succ, List.set_cons_zero])
        refine tk (i := 18) (oi := ⟨some 67, .fieldAddr 50 (.tmp 66) 1, 0, "ref.go:486", #[⟨17, .data⟩, ⟨13, .guard⟩], some (13, false)⟩) rfl ?_; (try simp only [Act.put, List.setIfInBounds_toArray, List.set_cons_succ, List.set_cons_zero])
        refine tk (i := 19) (oi := ⟨some 68, .load 37 (.tmp 67), 37, "ref.go:486", #[⟨18, .data⟩, ⟨13, .guard⟩], some (13, false)⟩) rfl ?_; (try simp only [Act.put, List.setIfInBounds_toArray, List.set_cons_succ, List.set_cons_zero])
        refine tk (i := 20) (oi := ⟨some 69, .fieldAddr 42 (.tmp 3) 3, 0, "ref.go:486", #[⟨13, .guard⟩], some (13, false)⟩) rfl ?_; (try simp only [Act.put, List.setIfInBounds_toArray, List.set_cons_succ, List.set_cons_zero])
        refine tk (i := 21) (oi := ⟨some 70, .load 39 (.tmp 69), 39, "ref.go:486", #[⟨20, .data⟩, ⟨13, .guard⟩], some (13, false)⟩) rfl ?_; (try simp only [Act.put, List.setIfInBounds_toArray, List.set_cons_succ, List.set_cons_zero])
        refine tk (i := 22) (oi := ⟨some 71, .move (.tmp 5), 3, "ref.go:486", #[⟨13, .guard⟩], some (13, false)⟩) rfl ?_; (try simp only [Act.put, List.setIfInBounds_toArray, List.set_cons_succ, List.set_cons_zero])
        refine tk (i := 23) (oi := ⟨some 72, .indexAddr 39 (.tmp 70) (.tmp 71), 0, "ref.go:486", #[⟨21, .data⟩, ⟨22, .data⟩, ⟨13, .guard⟩], some (13, false)⟩) rfl ?_; (try simp only [Act.put, List.setIfInBounds_toArray, List.set_cons_succ, List.set_cons_zero])
        refine tk (i := 24) (oi := ⟨some 73, .fieldAddr 50 (.tmp 72) 1, 0, "ref.go:486", #[⟨23, .data⟩, ⟨13, .guard⟩], some (13, false)⟩) rfl ?_; (try simp only [Act.put, List.setIfInBounds_toArray, List.set_cons_succ, List.set_cons_zero])
        refine tk (i := 25) (oi := ⟨some 74, .load 37 (.tmp 73), 37, "ref.go:486", #[⟨24, .data⟩, ⟨13, .guard⟩], some (13, false)⟩) rfl ?_; (try simp only [Act.put, List.setIfInBounds_toArray, List.set_cons_succ, List.set_cons_zero])
        refine wpAnyH_ready (rs := [26]) (by kernel_rfl) (by simp) ?_
        refine AllReadyH.cons (o := ⟨some 75, .call { callee := .value (.func 38), args := #[.tmp 68, .tmp 74], argTypes := #[37, 37] }, 4, "ref.go:486", #[⟨19, .data⟩, ⟨25, .data⟩, ⟨13, .chain⟩, ⟨13, .guard⟩], some (13, false)⟩) rfl (fun K hK => ?_) AllReadyH.nil
        go_simp
        (refine HIn.out.mono ?_; rintro e w2 ⟨rfl, q5, rfl⟩; have SS2 : (fun w' => w'.cell? ⟨K2, 3, none⟩ = some (.slice (some ⟨g, o, none⟩) n dx) ∧ w'.cell? ⟨K3, 3, none⟩ = some (.slice (some ⟨g2, o2, none⟩) n dy) ∧ w'.cell? ⟨g, o + k * 2, none⟩ = some (.int .i64 xg) ∧ w'.cell? ⟨g, o + k * 2 + 1, none⟩ = some (.slice Ex xs.length ex) ∧ w'.cell? ⟨g2, o2 + k * 2, none⟩ = some (.int .i64 xg) ∧ w'.cell? ⟨g2, o2 + k * 2 + 1, none⟩ = some (.slice Ey ys.length ey)) ((World.drew wr).drewN q5) := SS; dsimp only at SS2)
        (try dsimp only)
        refine hK.out _ _ ?_ (fun hHeld1 => ?_)
        · first | trivial | ((try dsimp only); first | assumption | trivial | go_keep)
        clear hK K hHeld0
        (try simp only [Act.put, List.setIfInBounds_toArray, List.set_cons_succ, List.set_cons_zero])
        refine tk (i := 27) (oi := ⟨some 76, .unOp .not 4 (.tmp 75), 4, "ref.go:486", #[⟨26, .data⟩, ⟨13, .guard⟩], some (13, false)⟩) rfl ?_; (try simp only [Act.put, List.setIfInBounds_toArray, List.set_cons_succ, List.set_cons_zero])
        refine tk (i := 28) (oi := ⟨some 77, .pick (.tmp 62) (.const (.bool true)) (.tmp 76), 4, "ref.go:486", #[⟨13, .data⟩, ⟨27, .data⟩], none⟩) rfl ?_; (try simp only [Act.put, List.setIfInBounds_toArray, List.set_cons_succ, List.set_cons_zero])
        refine wpAnyH_done (by kernel_rfl) ?_ _
        go_wp2_with fail
        go_ret
        exact ⟨by rw [HF.out]; rfl, HBD.out.trans ((below_drewN _ _).mono HBD.out.size)⟩
      · rw [ms] at HIn hR
        have HF : Hid (St.edSame (xe.drop (k + 1)) (ye.drop (k + 1)) = R) := Lib.hid (by rw [← hR]; simp)
        clear hR ms
        refine wp_region_held_drew (S := (fun w' => w'.cell? ⟨K2, 3, none⟩ = some (.slice (some ⟨g, o, none⟩) n dx) ∧ w'.cell? ⟨K3, 3, none⟩ = some (.slice (some ⟨g2, o2, none⟩) n dy) ∧ w'.cell? ⟨g, o + k * 2, none⟩ = some (.int .i64 xg) ∧ w'.cell? ⟨g, o + k * 2 + 1, none⟩ = some (.slice Ex xs.length ex) ∧ w'.cell? ⟨g2, o2 + k * 2, none⟩ = some (.int .i64 xg) ∧ w'.cell? ⟨g2, o2 + k * 2 + 1, none⟩ = some (.slice Ey ys.length ey))) (by kernel_rfl) ?_ (fun hHeld0 => ?_)
        · first | assumption | go_keep
        refine tk (i := 0) (oi := ⟨some 49, .fieldAddr 42 (.tmp 2) 3, 0, "ref.go:486", #[], none⟩) rfl ?_; (try simp only [Act.put, List.setIfInBounds_toArray, List.set_cons_succ, List.set_cons_zero])
        refine tk (i := 1) (oi := ⟨some 50, .load 39 (.tmp 49), 39, "ref.go:486", #[⟨0, .data⟩], none⟩) rfl ?_; (try simp only [Act.put, List.setIfInBounds_toArray, List.set_cons_succ, List.set_cons_zero])
        refine tk (i := 2) (oi := ⟨some 51, .move (.tmp 5), 3, "ref.go:486", #[], none⟩) rfl ?_; (try simp only [Act.put, List.setIfInBounds_toArray, List.set_cons_succ, List.set_cons_zero])
        refine tk (i := 3) (oi := ⟨some 52, .indexAddr 39 (.tmp 50) (.tmp 51), 0, "ref.go:486", #[⟨1, .data⟩, ⟨2, .data⟩], none⟩) rfl ?_; (try simp only [Act.put, List.setIfInBounds_toArray, List.set_cons_succ, List.set_cons_zero])
        refine tk (i := 4) (oi := ⟨some 53, .fieldAddr 50 (.tmp 52) 0, 0, "ref.go:486", #[⟨3, .data⟩], none⟩) rfl ?_; (try simp only [Act.put, List.setIfInBounds_toArray, List.set_cons_succ, List.set_cons_zero])
        refine tk (i := 5) (oi := ⟨some 54, .load 3 (.tmp 53), 3, "ref.go:486", #[⟨4, .data⟩], none⟩) rfl ?_; (try simp only [Act.put, List.setIfInBounds_toArray, List.set_cons_succ, List.set_cons_zero])
        refine tk (i := 6) (oi := ⟨some 55, .fieldAddr 42 (.tmp 3) 3, 0, "ref.go:486", #[], none⟩) rfl ?_; (try simp only [Act.put, List.setIfInBounds_toArray, List.set_cons_succ, List.set_cons_zero])
        refine tk (i := 7) (oi := ⟨some 56, .load 39 (.tmp 55), 39, "ref.go:486", #[⟨6, .data⟩], none⟩) rfl ?_; (try simp only [Act.put, List.setIfInBounds_toArray, List.set_cons_succ, List.set_cons_zero])
        refine tk (i := 8) (oi := ⟨some 57, .move (.tmp 5), 3, "ref.go:486", #[], none⟩) rfl ?_; (try simp only [Act.put, List.setIfInBounds_toArray, List.set_cons_succ, List.set_cons_zero])
        refine tk (i := 9) (oi := ⟨some 58, .indexAddr 39 (.tmp 56) (.tmp 57), 0, "ref.go:486", #[⟨7, .data⟩, ⟨8, .data⟩], none⟩) rfl ?_; (try simp only [Act.put, List.setIfInBounds_toArray, List.set_cons_succ, List.set_cons_zero])
        refine tk (i := 10) (oi := ⟨some 59, .fieldAddr 50 (.tmp 58) 0, 0, "ref.go:486", #[⟨9, .data⟩], none⟩) rfl ?_; (try simp only [Act.put, List.setIfInBounds_toArray, List.set_cons_succ, List.set_cons_zero])
        refine tk (i := 11) (oi := ⟨some 60, .load 3 (.tmp 59), 3, "ref.go:486", #[⟨10, .data⟩], none⟩) rfl ?_; (try simp only [Act.put, List.setIfInBounds_toArray, List.set_cons_succ, List.set_cons_zero])
        refine tk (i := 12) (oi := ⟨some 61, .binOp .neq 3 (.tmp 54) (.tmp 60) 3, 4, "ref.go:486", #[⟨5, .data⟩, ⟨11, .data⟩], none⟩) rfl ?_; (try simp only [Act.put, List.setIfInBounds_toArray, List.set_cons_succ, List.set_cons_zero])
        refine tk (i := 13) (oi := ⟨some 62, .move (.tmp 61), 4, "ref.go:486", #[⟨12, .data⟩], none⟩) rfl ?_; (try simp only [Act.put, List.setIfInBounds_toArray, List.set_cons_succ, List.set_cons_zero])
        refine tk (i := 14) (oi := ⟨some 63, .fieldAddr 42 (.tmp 2) 3, 0, "ref.go:486", #[⟨13, .guard⟩], some (13, false)⟩) rfl ?_; (try simp only [Act.put, List.setIfInBounds_toArray, List.set_cons_succ, List.set_cons_zero])
        refine tk (i := 15) (oi := ⟨some 64, .load 39 (.tmp 63), 39, "ref.go:486", #[⟨14, .data⟩, ⟨13, .guard⟩], some (13, false)⟩) rfl ?_; (try simp only [Act.put, List.setIfInBounds_toArray, List.set_cons_succ, List.set_cons_zero])
        refine tk (i := 16) (oi := ⟨some 65, .move (.tmp 5), 3, "ref.go:486", #[⟨13, .guard⟩], some (13, false)⟩) rfl ?_; (try simp only [Act.put, List.setIfInBounds_toArray, List.set_cons_succ, List.set_cons_zero])
        refine tk (i := 17) (oi := ⟨some 66, .indexAddr 39 (.tmp 64) (.tmp 65), 0, "ref.go:486", #[⟨15, .data⟩, ⟨16, .data⟩, ⟨13, .guard⟩], some (13, false)⟩) rfl ?_; (try simp only [Act.put, List.setIfInBounds_toArray, List.set_cons_succ, List.set_cons_zero])
        refine tk (i := 18) (oi := ⟨some 67, .fieldAddr 50 (.tmp 66) 1, 0, "ref.go:486", #[⟨17, .data⟩, ⟨13, .guard⟩], some (13, false)⟩) rfl ?_; (try simp only [Act.put, List.setIfInBounds_toArray, List.set_cons_succ, List.set_cons_zero])
        refine tk (i := 19) (oi := ⟨some 68, .load 37 (.tmp 67), 37, "ref.go:486", #[⟨18, .data⟩, ⟨13, .guard⟩], some (13, false)⟩) rfl ?_; (try simp only [Act.put, List.setIfInBounds_toArray, List.set_cons_succ, List.set_cons_zero])
        refine tk (i := 20) (oi := ⟨some 69, .fieldAddr 42 (.tmp 3) 3, 0, "ref.go:486", #[⟨13, .guard⟩], some (13, false)⟩) rfl ?_; (try simp only [Act.put, List.setIfInBounds_toArray, List.set_cons_succ, List.set_cons_zero])
        refine tk (i := 21) (oi := ⟨some 70, .load 39 (.tmp 69), 39, "ref.go:486", #[⟨20, .data⟩, ⟨13, .guard⟩], some (13, false)⟩) rfl ?_; (try simp only [Act.put, List.setIfInBounds_toArray, List.set_cons_succ, List.set_cons_zero])
        refine tk (i := 22) (oi := ⟨some 71, .move (.tmp 5), 3, "ref.go:486", #[⟨13, .guard⟩], some (13, false)⟩) rfl ?_; (try simp only [Act.put, List.setIfInBounds_toArray, List.set_cons_succ, List.set_cons_zero])
        refine tk (i := 23) (oi := ⟨some 72, .indexAddr 39 (.tmp 70) (.tmp 71), 0, "ref.go:486", #[⟨21, .data⟩, ⟨22, .data⟩, ⟨13, .guard⟩], some (13, false)⟩) rfl ?_; (try simp only [Act.put, List.setIfInBounds_toArray, List.set_cons_succ, List.set_cons_zero])
        refine tk (i := 24) (oi := ⟨some 73, .fieldAddr 50 (.tmp 72) 1, 0, "ref.go:486", #[⟨23, .data⟩, ⟨13, .guard⟩], some (13, false)⟩) rfl ?_; (try simp only [Act.put, List.setIfInBounds_toArray, List.set_cons_succ, List.set_cons_zero])
        refine tk (i := 25) (oi := ⟨some 74, .load 37 (.tmp 73), 37, "ref.go:486", #[⟨24, .data⟩, ⟨13, .guard⟩], some (13, false)⟩) rfl ?_; (try simp only [Act.put, List.setIfInBounds_toArray, List.set_cons_succ, List.set_cons_zero])
        refine wpAnyH_ready (rs := [26]) (by kernel_rfl) (by simp) ?_
        refine AllReadyH.cons (o := ⟨some 75, .call { callee := .value (.func 38), args := #[.tmp 68, .tmp 74], argTypes := #[37, 37] }, 4, "ref.go:486", #[⟨19, .data⟩, ⟨25, .data⟩, ⟨13, .chain⟩, ⟨13, .guard⟩], some (13, false)⟩) rfl (fun K hK => ?_) AllReadyH.nil
        go_simp
        (refine HIn.out.mono ?_; rintro e w2 ⟨rfl, q5, rfl⟩; have SS2 : (fun w' => w'.cell? ⟨K2, 3, none⟩ = some (.slice (some ⟨g, o, none⟩) n dx) ∧ w'.cell? ⟨K3, 3, none⟩ = some (.slice (some ⟨g2, o2, none⟩) n dy) ∧ w'.cell? ⟨g, o + k * 2, none⟩ = some (.int .i64 xg) ∧ w'.cell? ⟨g, o + k * 2 + 1, none⟩ = some (.slice Ex xs.length ex) ∧ w'.cell? ⟨g2, o2 + k * 2, none⟩ = some (.int .i64 xg) ∧ w'.cell? ⟨g2, o2 + k * 2 + 1, none⟩ = some (.slice Ey ys.length ey)) ((World.drew wr).drewN q5) := SS; dsimp only at SS2)
        (try dsimp only)
        refine hK.out _ _ ?_ (fun hHeld1 => ?_)
        · first | trivial | ((try dsimp only); first | assumption | trivial | go_keep)
        clear hK K hHeld0
        (try simp only [Act.put, List.setIfInBounds_toArray, List.set_cons_succ, List.set_cons_zero])
        refine tk (i := 27) (oi := ⟨some 76, .unOp .not 4 (.tmp 75), 4, "ref.go:486", #[⟨26, .data⟩, ⟨13, .guard⟩], some (13, false)⟩) rfl ?_; (try simp only [Act.put, List.setIfInBounds_toArray, List.set_cons_succ, List.set_cons_zero])
        refine tk (i := 28) (oi := ⟨some 77, .pick (.tmp 62) (.const (.bool true)) (.tmp 76), 4, "ref.go:486", #[⟨13, .data⟩, ⟨27, .data⟩], none⟩) rfl ?_; (try simp only [Act.put, List.setIfInBounds_toArray, List.set_cons_succ, List.set_cons_zero])
        refine wpAnyH_done (by kernel_rfl) ?_ _
        go_wp2_with fail
        go_roundw
        case measure => simp [intOf]; omega
        case rel => exact ⟨k + 1, by go_num, by omega, HF, Lib.hid (HB.out.trans ((below_drewN wr _).mono HB.out.size)), Lib.hid (V2.out.below (below_drewN wr _) V2.out.lt), Lib.hid (V3.out.below (below_drewN wr _) V3.out.lt)⟩
    · have hk2 : k = n := by omega
      have HF : Hid (R = true) := Lib.hid (by rw [← HR.out, hk2, List.drop_of_length_le (by omega), List.drop_of_length_le (by omega)]; rfl)
      have x0 : ¬ (k : Int) < (n : Int) := by omega
      clear hk2
      go_wp2_with fail
      go_ret
      exact ⟨by rw [HF.out]; rfl, HB.out⟩
end Go.Proofs.YtmhmpobjjhbklaaGreatDoor
set_option linter.unusedVariables false
set_option linter.unusedSimpArgs false
namespace Go.Proofs.YtmhmpobjjhbklaaGreatDoor
namespace St
def blkEq (x y : Blk) : Bool := decide (x.params = y.params) && (insSame x.ins y.ins && finSame x.fin y.fin)
theorem blkEq_iff (x y : Blk) : blkEq x y = true ↔ x = y := by
  obtain ⟨a, b, c⟩ := x
  obtain ⟨a', b', c'⟩ := y
  simp [blkEq, insSame_iff, finSame_iff]
def blkSame : List Blk → List Blk → Bool
  | [], [] => true
  | x :: a, y :: b => blkEq x y && blkSame a b
  | _, _ => false
theorem blkSame_iff : ∀ a b : List Blk, blkSame a b = true ↔ a = b
  | [], [] => by simp [blkSame]
  | [], _ :: _ => by simp [blkSame]
  | _ :: _, [] => by simp [blkSame]
  | x :: a, y :: b => by simp [blkSame, blkEq_iff, blkSame_iff a b]
theorem blkSame_len : ∀ a b : List Blk, a.length ≠ b.length → blkSame a b = false
  | [], [], h => absurd rfl h
  | [], _ :: _, _ => rfl
  | _ :: _, [], _ => rfl
  | x :: a, y :: b, h => by rw [blkSame, blkSame_len a b (by simpa using h), Bool.and_false]
def ssaSame (x y : Ssa) : Bool := (decide (x.ps = y.ps) && decide (x.rs = y.rs)) && (decide (x.vals = y.vals) && blkSame x.blocks y.blocks)
theorem ssaSame_iff (x y : Ssa) : ssaSame x y = true ↔ x = y := by
  obtain ⟨a, b, c, d⟩ := x
  obtain ⟨a', b', c', d'⟩ := y
  simp [ssaSame, blkSame_iff]
  constructor
  · rintro ⟨⟨h1, h2⟩, h3, h4⟩; exact ⟨h1, h2, h3, h4⟩
  · rintro ⟨h1, h2, h3, h4⟩; exact ⟨⟨h1, h2⟩, h3, h4⟩
end St
open Go.RowKit
open St (InR)
set_option maxHeartbeats 16000000 in
set_option maxRecDepth 100000 in
theorem rsame_any (S T : Nat → Prop) (x y : St.Ssa) (hx : x.Ok) (P1 R1 V1 B1 P2 R2 V2 B2 : Option Addr) (c1 c2 c3 c4 d1 d2 d3 d4 : Nat) (w : World) (h1 : SsaAt S w x P1 R1 V1 B1) (h2 : SsaAt T w y P2 R2 V2 B2) :
    Calls Tryz.prog 13 #[ssaV x P1 c1 R1 c2 V1 c3 B1 c4, ssaV y P2 d1 R2 d2 V2 d3 B2 d4] w fun e w' => e = .returned (.bool (St.ssaSame x y)) ∧ Below w.heap.size w w' := by
  obtain ⟨R, hR⟩ : ∃ R, St.ssaSame x y = R := ⟨_, rfl⟩
  rw [hR]
  unfold ssaV
  unfold St.ssaSame at hR
  obtain ⟨p1, r1, v1, b1⟩ := x
  obtain ⟨p2, r2, v2, b2⟩ := y
  obtain ⟨m1, m2, m3, m4, m5⟩ := hx
  obtain ⟨s1, s2, s3, s4⟩ := h1
  obtain ⟨t1, t2, t3, t4⟩ := h2
  dsimp only at *
  have hbx := ((Below.refl w.heap.size w).alloc (Nat.le_refl _) (.cells #[.slice P1 p1.length c1, .slice R1 r1.length c2, .slice V1 v1.length c3, .slice B1 b1.length c4] 27)).alloc (by simp) (.cells #[.slice P2 p2.length d1, .slice R2 r2.length d2, .slice V2 v2.length d3, .slice B2 b2.length d4] 27)
  have BX2 := (Var.new w #[.slice P1 p1.length c1, .slice R1 r1.length c2, .slice V1 v1.length c3, .slice B1 b1.length c4] 27).alloc (.cells #[.slice P2 p2.length d1, .slice R2 r2.length d2, .slice V2 v2.length d3, .slice B2 b2.length d4] 27)
  have BX3 := Var.newE (w.alloc (.cells #[.slice P1 p1.length c1, .slice R1 r1.length c2, .slice V1 v1.length c3, .slice B1 b1.length c4] 27)) #[.slice P2 p2.length d1, .slice R2 r2.length d2, .slice V2 v2.length d3, .slice B2 b2.length d4] 27 (K := w.heap.size + 1) (by simp)
  have HS1 := Lib.hid (refSame_any P1 R1 P2 R2 c1 c2 d1 d2 p1 r1 p2 r2 _ (s1.on hbx).rds.rdI (s2.on hbx).rds.rdI (t1.on hbx).rds.rdI (t2.on hbx).rds.rdI m1 m2)
  have HS2 := Lib.hid (fun W (hb : Below ((w.alloc (.cells #[.slice P1 p1.length c1, .slice R1 r1.length c2, .slice V1 v1.length c3, .slice B1 b1.length c4] 27)).alloc (.cells #[.slice P2 p2.length d1, .slice R2 r2.length d2, .slice V2 v2.length d3, .slice B2 b2.length d4] 27)).heap.size ((w.alloc (.cells #[.slice P1 p1.length c1, .slice R1 r1.length c2, .slice V1 v1.length c3, .slice B1 b1.length c4] 27)).alloc (.cells #[.slice P2 p2.length d1, .slice R2 r2.length d2, .slice V2 v2.length d3, .slice B2 b2.length d4] 27)) W) => refSameVals_any V1 V2 c3 d3 v1 v2 W _ ((s3.on hbx).on hb).rds.rdI ((t3.on hbx).on hb).rds.rdI (by omega))
  have H2 := Lib.hid (fun W (hb : Below w.heap.size w W) => RdT.blkOn s4 hb)
  have H4 := Lib.hid (fun W (hb : Below w.heap.size w W) => RdT.blkOn t4 hb)
  have HOK := Lib.hid m5
  have HB2 := Lib.hid hbx
  clear s1 s2 s3 s4 t1 t2 t3 t4 m5 m1 m2
  rcases mt : (decide (p1 = p2) && decide (r1 = r2)) with _ | _
  · rw [mt] at HS1 hR
    have HF : Hid (R = false) := Lib.hid (by rw [← hR]; rfl)
    clear hR mt
    go_enter Tryz.func13, Tryz.ntmps13
    go_wp2_with (go_at_call 36; refine HS1.out.mono ?_; rintro e w1 ⟨rfl, hb1⟩; obtain ⟨aa0, aa1, aa2, aa3⟩ := cells4 (BX2.below hb1 BX2.lt); obtain ⟨ab0, ab1, ab2, ab3⟩ := cells4 (BX3.below hb1 BX3.lt))
    go_ret
    exact ⟨by rw [HF.out]; rfl, HB2.out.trans (hb1.mono HB2.out.size)⟩
  rw [mt] at HS1 hR
  clear mt
  rcases mv : decide (v1 = v2) with _ | _
  · rw [mv] at HS2 hR
    have HF : Hid (R = false) := Lib.hid (by rw [← hR]; rfl)
    clear hR mv
    go_enter Tryz.func13, Tryz.ntmps13
    go_wp2_with (first | (go_at_call 36; refine HS1.out.mono ?_; rintro e w1 ⟨rfl, hb1⟩; obtain ⟨aa0, aa1, aa2, aa3⟩ := cells4 (BX2.below hb1 BX2.lt); obtain ⟨ab0, ab1, ab2, ab3⟩ := cells4 (BX3.below hb1 BX3.lt)) | (go_at_call 37; refine (HS2.out _ hb1).mono ?_; rintro e w2 ⟨rfl, q, rfl⟩))
    go_ret
    exact ⟨by rw [HF.out]; rfl, (HB2.out.trans (hb1.mono HB2.out.size)).trans ((below_drewN _ q).mono (Nat.le_trans HB2.out.size hb1.size))⟩
  rw [mv] at HS2 hR
  clear mv
  by_cases hl : ¬ (b1.length = b2.length)
  · have HF : Hid (R = false) := Lib.hid (by rw [← hR, St.blkSame_len b1 b2 hl]; simp)
    have g1 : ((b1.length : Int) == (b2.length : Int)) = false := by simp; omega
    clear hR
    go_enter Tryz.func13, Tryz.ntmps13
    go_wp2_with (first | (go_at_call 36; refine HS1.out.mono ?_; rintro e w1 ⟨rfl, hb1⟩; obtain ⟨aa0, aa1, aa2, aa3⟩ := cells4 (BX2.below hb1 BX2.lt); obtain ⟨ab0, ab1, ab2, ab3⟩ := cells4 (BX3.below hb1 BX3.lt)) | (go_at_call 37; refine (HS2.out _ hb1).mono ?_; rintro e w2 ⟨rfl, q, rfl⟩))
    go_ret
    exact ⟨by rw [HF.out]; rfl, (HB2.out.trans (hb1.mono HB2.out.size)).trans ((below_drewN _ q).mono (Nat.le_trans HB2.out.size hb1.size))⟩
  replace hl : b1.length = b2.length := Decidable.not_not.1 hl
  obtain ⟨n, hn⟩ : ∃ n, b2.length = n := ⟨_, rfl⟩
  have hxn : b1.length = n := hl.trans hn
  rw [hxn, hn] at HS1 HS2 HB2 BX2 BX3
  rw [hxn, hn]
  have HR0 : Hid (St.blkSame (b1.drop 0) (b2.drop 0) = R) := Lib.hid (by rw [← hR]; simp)
  clear hR
  have W2 := BX2
  have W3 := BX3
  go_enter Tryz.func13, Tryz.ntmps13
  go_upto_region 3 with (first | (go_at_call 36; refine HS1.out.mono ?_; rintro e w1 ⟨rfl, hb1⟩; obtain ⟨aa0, aa1, aa2, aa3⟩ := cells4 (BX2.below hb1 BX2.lt); obtain ⟨ab0, ab1, ab2, ab3⟩ := cells4 (BX3.below hb1 BX3.lt)) | (go_at_call 37; refine (HS2.out _ hb1).mono ?_; rintro e w2 ⟨rfl, q, rfl⟩))
  have hbq := hb1.trans ((below_drewN w1 q).mono hb1.size)
  refine at_code (F := fun W => Var W w.heap.size #[.slice P1 p1.length c1, .slice R1 r1.length c2, .slice V1 v1.length c3, .slice B1 n c4] 27 ∧ Var W (w.heap.size + 1) #[.slice P2 p2.length d1, .slice R2 r2.length d2, .slice V2 v2.length d3, .slice B2 n d4] 27 ∧ Below w.heap.size w W) ⟨W2.below hbq W2.lt, W3.below hbq W3.lt, HB2.out.trans (hbq.mono HB2.out.size)⟩ ?_
  clear W2 W3 HS1 HS2 HB2 hb1 hbq BX2 BX3 aa0 aa1 aa2 aa3 ab0 ab1 ab2 ab3
  obtain ⟨K2, hK2⟩ : ∃ K, w.heap.size = K := ⟨_, rfl⟩
  have HK := Lib.hid hK2
  simp only [hK2]
  clear hK2
  obtain ⟨K3, hK3⟩ : ∃ K, K2 + 1 = K := ⟨_, rfl⟩
  simp only [hK3]
  clear hK3
  rintro W0 ⟨W2, W3, B0⟩
  go_wp2_with fail
  go_loopw [5] (fun iv wr => ∃ (k : Nat), iv = .int .i64 (k : Int) ∧ k ≤ n ∧ Hid (St.blkSame (b1.drop k) (b2.drop k) = R) ∧ Hid (Below w.heap.size w wr) ∧ Hid (Var wr K2 #[.slice P1 p1.length c1, .slice R1 r1.length c2, .slice V1 v1.length c3, .slice B1 n c4] 27) ∧ Hid (Var wr K3 #[.slice P2 p2.length d1, .slice R2 r2.length d2, .slice V2 v2.length d3, .slice B2 n d4] 27)) (fun iv _ => n - (intOf iv).toNat)
  case atStart => exact ⟨0, rfl, by omega, HR0, Lib.hid (by rw [HK.out]; exact B0), Lib.hid W2, Lib.hid W3⟩
  case round =>
    clear HR0 W2 W3 B0
    obtain ⟨k, rfl, hk, HR, HB, W2, W3⟩ := hrel
    obtain ⟨-, -, -, p3⟩ := cells4 W2.out
    obtain ⟨-, -, -, q3⟩ := cells4 W3.out
    by_cases hkl : k < n
    · obtain ⟨g, o, rfl, -, hgl, hx⟩ := (H2.out _ HB.out).get (show k < b1.length by omega)
      obtain ⟨g2, o2, rfl, -, hgl2, hy⟩ := (H4.out _ HB.out).get (show k < b2.length by omega)
      have hd : b1.drop k = b1[k] :: b1.drop (k + 1) := List.drop_eq_getElem_cons (by omega)
      have hd2 : b2.drop k = b2[k] :: b2.drop (k + 1) := List.drop_eq_getElem_cons (by omega)
      have hok := HOK.out b1[k] (List.getElem_mem _)
      have hR := HR.out
      rw [hd, hd2, St.blkSame] at hR
      obtain ⟨x, hxx⟩ : ∃ x, b1[k] = x := ⟨_, rfl⟩
      obtain ⟨y, hyy⟩ : ∃ y, b2[k] = y := ⟨_, rfl⟩
      rw [hxx] at hx hok hR
      rw [hyy] at hy hR
      clear hxx hyy hd hd2 HR
      obtain ⟨xp, xi, xk, xc, xa, xe, xt⟩ := x
      obtain ⟨yp, yi, yk, yc, ya, ye, yt⟩ := y
      obtain ⟨Ap, ap, Ai, ai, Aa, aa, At, at_, ⟨f0, f1, f2, f3, f4, f5, f6⟩, e1, e2, e3, e4⟩ := hx.seven
      obtain ⟨Bp, bp, Bi, bi, Ba, ba, Bt, bt, ⟨j0, j1, j2, j3, j4, j5, j6⟩, i1, i2, i3, i4⟩ := hy.seven
      dsimp only at f0 f1 f2 f3 f4 f5 f6 j0 j1 j2 j3 j4 j5 j6 e1 e2 e3 e4 i1 i2 i3 i4
      have x0 : (k : Int) < (n : Int) := by omega
      have x2 : (0 : Int) ≤ (k : Int) := by omega
      clear hx hy
      have WD2 : Hid (Var (World.drew wr) K2 #[.slice P1 p1.length c1, .slice R1 r1.length c2, .slice V1 v1.length c3, .slice (some ⟨g, o, none⟩) n c4] 27) := W2
      have WD3 : Hid (Var (World.drew wr) K3 #[.slice P2 p2.length d1, .slice R2 r2.length d2, .slice V2 v2.length d3, .slice (some ⟨g2, o2, none⟩) n d4] 27) := W3
      go_upto_region 6 with fail
      go_cut [6, 7] from 31 to 69 (fun s6 s7 wx => ∃ K6 K7, s6 = .pointer (some ⟨K6, 0, none⟩) ∧ s7 = .pointer (some ⟨K7, 0, none⟩) ∧ Var wx K6 #[.slice Ap xp.length ap, .slice Ai xi.length ai, .int .i64 xk, .int .i64 xc, .slice Aa xa.length aa, .slice At xe.length at_, .int .i64 xt] 44 ∧ Var wx K7 #[.slice Bp yp.length bp, .slice Bi yi.length bi, .int .i64 yk, .int .i64 yc, .slice Ba ya.length ba, .slice Bt ye.length bt, .int .i64 yt] 44 ∧ Below wr.heap.size wr wx)
      case first =>
        have SS : (fun w' => w'.cell? ⟨K2, 3, none⟩ = some (.slice (some ⟨g, o, none⟩) n c4) ∧ w'.cell? ⟨K3, 3, none⟩ = some (.slice (some ⟨g2, o2, none⟩) n d4) ∧ w'.cell? ⟨g, o + k * 7, none⟩ = some (.slice Ap xp.length ap) ∧ w'.cell? ⟨g, o + k * 7 + 1, none⟩ = some (.slice Ai xi.length ai) ∧ w'.cell? ⟨g, o + k * 7 + 2, none⟩ = some (.int .i64 xk) ∧ w'.cell? ⟨g, o + k * 7 + 3, none⟩ = some (.int .i64 xc) ∧ w'.cell? ⟨g, o + k * 7 + 4, none⟩ = some (.slice Aa xa.length aa) ∧ w'.cell? ⟨g, o + k * 7 + 5, none⟩ = some (.slice At xe.length at_) ∧ w'.cell? ⟨g, o + k * 7 + 6, none⟩ = some (.int .i64 xt) ∧ w'.cell? ⟨g2, o2 + k * 7, none⟩ = some (.slice Bp yp.length bp) ∧ w'.cell? ⟨g2, o2 + k * 7 + 1, none⟩ = some (.slice Bi yi.length bi) ∧ w'.cell? ⟨g2, o2 + k * 7 + 2, none⟩ = some (.int .i64 yk) ∧ w'.cell? ⟨g2, o2 + k * 7 + 3, none⟩ = some (.int .i64 yc) ∧ w'.cell? ⟨g2, o2 + k * 7 + 4, none⟩ = some (.slice Ba ya.length ba) ∧ w'.cell? ⟨g2, o2 + k * 7 + 5, none⟩ = some (.slice Bt ye.length bt) ∧ w'.cell? ⟨g2, o2 + k * 7 + 6, none⟩ = some (.int .i64 yt)) (World.drew wr) := ⟨p3, q3, f0, f1, f2, f3, f4, f5, f6, j0, j1, j2, j3, j4, j5, j6⟩
        dsimp only at SS
        refine wp_region_held_drew (S := (fun w' => w'.cell? ⟨K2, 3, none⟩ = some (.slice (some ⟨g, o, none⟩) n c4) ∧ w'.cell? ⟨K3, 3, none⟩ = some (.slice (some ⟨g2, o2, none⟩) n d4) ∧ w'.cell? ⟨g, o + k * 7, none⟩ = some (.slice Ap xp.length ap) ∧ w'.cell? ⟨g, o + k * 7 + 1, none⟩ = some (.slice Ai xi.length ai) ∧ w'.cell? ⟨g, o + k * 7 + 2, none⟩ = some (.int .i64 xk) ∧ w'.cell? ⟨g, o + k * 7 + 3, none⟩ = some (.int .i64 xc) ∧ w'.cell? ⟨g, o + k * 7 + 4, none⟩ = some (.slice Aa xa.length aa) ∧ w'.cell? ⟨g, o + k * 7 + 5, none⟩ = some (.slice At xe.length at_) ∧ w'.cell? ⟨g, o + k * 7 + 6, none⟩ = some (.int .i64 xt) ∧ w'.cell? ⟨g2, o2 + k * 7, none⟩ = some (.slice Bp yp.length bp) ∧ w'.cell? ⟨g2, o2 + k * 7 + 1, none⟩ = some (.slice Bi yi.length bi) ∧ w'.cell? ⟨g2, o2 + k * 7 + 2, none⟩ = some (.int .i64 yk) ∧ w'.cell? ⟨g2, o2 + k * 7 + 3, none⟩ = some (.int .i64 yc) ∧ w'.cell? ⟨g2, o2 + k * 7 + 4, none⟩ = some (.slice Ba ya.length ba) ∧ w'.cell? ⟨g2, o2 + k * 7 + 5, none⟩ = some (.slice Bt ye.length bt) ∧ w'.cell? ⟨g2, o2 + k * 7 + 6, none⟩ = some (.int .i64 yt))) (by kernel_rfl) ?_ (fun hHeld0 => ?_)
        · first | assumption | go_keep
        refine tk (i := 0) (oi := ⟨some 38, .fieldAddr 27 (.tmp 2) 2, 0, "ref.go:499", #[], none⟩) rfl ?_; (try simp only [Act.put, List.setIfInBounds_toArray, List.set_cons_succ, List.set_cons_zero])
        refine tk (i := 1) (oi := ⟨some 39, .load 25 (.tmp 38), 25, "ref.go:499", #[⟨0, .data⟩], none⟩) rfl ?_; (try simp only [Act.put, List.setIfInBounds_toArray, List.set_cons_succ, List.set_cons_zero])
        refine tk (i := 2) (oi := ⟨some 40, .move (.tmp 5), 3, "ref.go:499", #[], none⟩) rfl ?_; (try simp only [Act.put, List.setIfInBounds_toArray, List.set_cons_succ, List.set_cons_zero])
        refine tk (i := 3) (oi := ⟨some 41, .indexAddr 25 (.tmp 39) (.tmp 40), 0, "ref.go:499", #[⟨1, .data⟩, ⟨2, .data⟩], none⟩) rfl ?_; (try simp only [Act.put, List.setIfInBounds_toArray, List.set_cons_succ, List.set_cons_zero])
        refine tk (i := 4) (oi := ⟨some 42, .load 44 (.tmp 41), 44, "ref.go:499", #[⟨3, .data⟩], none⟩) rfl ?_; (try simp only [Act.put, List.setIfInBounds_toArray, List.set_cons_succ, List.set_cons_zero])
        refine tk (i := 5) (oi := ⟨some 43, .fieldAddr 27 (.tmp 3) 2, 0, "ref.go:499", #[{ on := 12, ground := .gcOnly Go.Departure.lateStores }], none⟩) rfl ?_; (try simp only [Act.put, List.setIfInBounds_toArray, List.set_cons_succ, List.set_cons_zero])
        refine tk (i := 6) (oi := ⟨some 44, .load 25 (.tmp 43), 25, "ref.go:499", #[⟨5, .data⟩, { on := 12, ground := .gcOnly Go.Departure.lateStores }], none⟩) rfl ?_; (try simp only [Act.put, List.setIfInBounds_toArray, List.set_cons_succ, List.set_cons_zero])
        refine tk (i := 7) (oi := ⟨some 45, .move (.tmp 5), 3, "ref.go:499", #[{ on := 12, ground := .gcOnly Go.Departure.lateStores }], none⟩) rfl ?_; (try simp only [Act.put, List.setIfInBounds_toArray, List.set_cons_succ, List.set_cons_zero])
        refine tk (i := 8) (oi := ⟨some 46, .indexAddr 25 (.tmp 44) (.tmp 45), 0, "ref.go:499", #[⟨6, .data⟩, ⟨7, .data⟩, { on := 12, ground := .gcOnly Go.Departure.lateStores }], none⟩) rfl ?_; (try simp only [Act.put, List.setIfInBounds_toArray, List.set_cons_succ, List.set_cons_zero])
        refine tk (i := 9) (oi := ⟨some 47, .load 44 (.tmp 46), 44, "ref.go:499", #[⟨8, .data⟩, { on := 12, ground := .gcOnly Go.Departure.lateStores }], none⟩) rfl ?_; (try simp only [Act.put, List.setIfInBounds_toArray, List.set_cons_succ, List.set_cons_zero])
        refine wpAnyH_ready (rs := [10, 11]) (by kernel_rfl) (by simp) ?_
        refine (AllReadyH.cons (o := ⟨some 6, .alloc 44, 0, "ref.go:499", #[], none⟩) rfl (fun K hK => ?_) (AllReadyH.cons (o := ⟨some 7, .alloc 44, 0, "ref.go:499", #[], none⟩) rfl (fun K hK => ?_) AllReadyH.nil))
        · skip
          go_simp
          skip
          (try dsimp only)
          refine hK.out _ _ ?_ (fun hHeld1 => ?_)
          · first | trivial | ((try dsimp only); first | assumption | trivial | go_keep)
          clear hK K hHeld0
          (try simp only [Act.put, List.setIfInBounds_toArray, List.set_cons_succ, List.set_cons_zero])
          refine wpAnyH_ready (rs := [11]) (by kernel_rfl) (by simp) ?_
          refine (AllReadyH.cons (o := ⟨some 7, .alloc 44, 0, "ref.go:499", #[], none⟩) rfl (fun K hK => ?_) AllReadyH.nil)
          go_simp
          skip
          (try dsimp only)
          refine hK.out _ _ ?_ (fun hHeld2 => ?_)
          · first | trivial | ((try dsimp only); first | assumption | trivial | go_keep)
          clear hK K hHeld1
          (try simp only [Act.put, List.setIfInBounds_toArray, List.set_cons_succ, List.set_cons_zero])
          refine wpAnyH_ready (rs := [12]) (by kernel_rfl) (by simp) ?_
          refine (AllReadyH.cons (o := ⟨none, .store 44 (.tmp 6) (.tmp 42), 0, "ref.go:499", #[⟨10, .data⟩, ⟨4, .data⟩, ⟨0, .phase⟩, ⟨1, .phase⟩, ⟨2, .phase⟩, ⟨3, .phase⟩, ⟨4, .phase⟩, { on := 5, ground := .textOnly Go.Departure.lateStores }, { on := 6, ground := .textOnly Go.Departure.lateStores }, { on := 7, ground := .textOnly Go.Departure.lateStores }, { on := 8, ground := .textOnly Go.Departure.lateStores }, { on := 9, ground := .textOnly Go.Departure.lateStores }, ⟨10, .phase⟩, ⟨11, .phase⟩], none⟩) rfl (fun K hK => ?_) AllReadyH.nil)
          go_simp
          skip
          (try dsimp only)
          refine hK.out _ _ ?_ (fun hHeld3 => ?_)
          · first | trivial | ((try dsimp only); first | assumption | trivial | go_keep)
          clear hK K hHeld2
          (try simp only [Act.put, List.setIfInBounds_toArray, List.set_cons_succ, List.set_cons_zero])
          refine wpAnyH_ready (rs := [13]) (by kernel_rfl) (by simp) ?_
          refine (AllReadyH.cons (o := ⟨none, .store 44 (.tmp 7) (.tmp 47), 0, "ref.go:499", #[⟨11, .data⟩, ⟨9, .data⟩, ⟨12, .chain⟩, ⟨0, .phase⟩, ⟨1, .phase⟩, ⟨2, .phase⟩, ⟨3, .phase⟩, ⟨4, .phase⟩, ⟨5, .phase⟩, ⟨6, .phase⟩, ⟨7, .phase⟩, ⟨8, .phase⟩, ⟨9, .phase⟩, ⟨10, .phase⟩, ⟨11, .phase⟩, ⟨12, .phase⟩], none⟩) rfl (fun K hK => ?_) AllReadyH.nil)
          go_simp
          skip
          (try dsimp only)
          refine hK.out _ _ ?_ (fun hHeld4 => ?_)
          · first | trivial | ((try dsimp only); first | assumption | trivial | go_keep)
          clear hK K hHeld3
          (try simp only [Act.put, List.setIfInBounds_toArray, List.set_cons_succ, List.set_cons_zero])
          refine wpAnyH_done (by kernel_rfl) ?_ _
          go_wp2_with fail
          go_meet
          exact ⟨_, _, rfl, rfl, (Var.new wr #[.slice Ap xp.length ap, .slice Ai xi.length ai, .int .i64 xk, .int .i64 xc, .slice Aa xa.length aa, .slice At xe.length at_, .int .i64 xt] 44).alloc _, Var.newE (wr.alloc (.cells #[.slice Ap xp.length ap, .slice Ai xi.length ai, .int .i64 xk, .int .i64 xc, .slice Aa xa.length aa, .slice At xe.length at_, .int .i64 xt] 44)) #[.slice Bp yp.length bp, .slice Bi yi.length bi, .int .i64 yk, .int .i64 yc, .slice Ba ya.length ba, .slice Bt ye.length bt, .int .i64 yt] 44 (by simp), (((Below.refl _ _).alloc (Nat.le_refl _) _).alloc (by simp) _).drew⟩
        · skip
          go_simp
          skip
          (try dsimp only)
          refine hK.out _ _ ?_ (fun hHeld1 => ?_)
          · first | trivial | ((try dsimp only); first | assumption | trivial | go_keep)
          clear hK K hHeld0
          (try simp only [Act.put, List.setIfInBounds_toArray, List.set_cons_succ, List.set_cons_zero])
          refine wpAnyH_ready (rs := [10]) (by kernel_rfl) (by simp) ?_
          refine (AllReadyH.cons (o := ⟨some 6, .alloc 44, 0, "ref.go:499", #[], none⟩) rfl (fun K hK => ?_) AllReadyH.nil)
          go_simp
          skip
          (try dsimp only)
          refine hK.out _ _ ?_ (fun hHeld2 => ?_)
          · first | trivial | ((try dsimp only); first | assumption | trivial | go_keep)
          clear hK K hHeld1
          (try simp only [Act.put, List.setIfInBounds_toArray, List.set_cons_succ, List.set_cons_zero])
          refine wpAnyH_ready (rs := [12]) (by kernel_rfl) (by simp) ?_
          refine (AllReadyH.cons (o := ⟨none, .store 44 (.tmp 6) (.tmp 42), 0, "ref.go:499", #[⟨10, .data⟩, ⟨4, .data⟩, ⟨0, .phase⟩, ⟨1, .phase⟩, ⟨2, .phase⟩, ⟨3, .phase⟩, ⟨4, .phase⟩, { on := 5, ground := .textOnly Go.Departure.lateStores }, { on := 6, ground := .textOnly Go.Departure.lateStores }, { on := 7, ground := .textOnly Go.Departure.lateStores }, { on := 8, ground := .textOnly Go.Departure.lateStores }, { on := 9, ground := .textOnly Go.Departure.lateStores }, ⟨10, .phase⟩, ⟨11, .phase⟩], none⟩) rfl (fun K hK => ?_) AllReadyH.nil)
          go_simp
          skip
          (try dsimp only)
          refine hK.out _ _ ?_ (fun hHeld3 => ?_)
          · first | trivial | ((try dsimp only); first | assumption | trivial | go_keep)
          clear hK K hHeld2
          (try simp only [Act.put, List.setIfInBounds_toArray, List.set_cons_succ, List.set_cons_zero])
          refine wpAnyH_ready (rs := [13]) (by kernel_rfl) (by simp) ?_
          refine (AllReadyH.cons (o := ⟨none, .store 44 (.tmp 7) (.tmp 47), 0, "ref.go:499", #[⟨11, .data⟩, ⟨9, .data⟩, ⟨12, .chain⟩, ⟨0, .phase⟩, ⟨1, .phase⟩, ⟨2, .phase⟩, ⟨3, .phase⟩, ⟨4, .phase⟩, ⟨5, .phase⟩, ⟨6, .phase⟩, ⟨7, .phase⟩, ⟨8, .phase⟩, ⟨9, .phase⟩, ⟨10, .phase⟩, ⟨11, .phase⟩, ⟨12, .phase⟩], none⟩) rfl (fun K hK => ?_) AllReadyH.nil)
          go_simp
          skip
          (try dsimp only)
          refine hK.out _ _ ?_ (fun hHeld4 => ?_)
          · first | trivial | ((try dsimp only); first | assumption | trivial | go_keep)
          clear hK K hHeld3
          (try simp only [Act.put, List.setIfInBounds_toArray, List.set_cons_succ, List.set_cons_zero])
          refine wpAnyH_done (by kernel_rfl) ?_ _
          go_wp2_with fail
          go_meet
          exact ⟨_, _, rfl, rfl, Var.newE (wr.alloc (.cells #[.slice Bp yp.length bp, .slice Bi yi.length bi, .int .i64 yk, .int .i64 yc, .slice Ba ya.length ba, .slice Bt ye.length bt, .int .i64 yt] 44)) #[.slice Ap xp.length ap, .slice Ai xi.length ai, .int .i64 xk, .int .i64 xc, .slice Aa xa.length aa, .slice At xe.length at_, .int .i64 xt] 44 (by simp), (Var.new wr #[.slice Bp yp.length bp, .slice Bi yi.length bi, .int .i64 yk, .int .i64 yc, .slice Ba ya.length ba, .slice Bt ye.length bt, .int .i64 yt] 44).alloc _, (((Below.refl _ _).alloc (Nat.le_refl _) _).alloc (by simp) _).drew⟩
      case rest =>
      obtain ⟨K6, K7, rfl, rfl, V6, V7, BW⟩ := hcut
      obtain ⟨u0, u1, u2, u3, u4, u5, u6⟩ := cells7 V6
      obtain ⟨z0, z1, z2, z3, z4, z5, z6⟩ := cells7 V7
      have l6 := V6.lt
      have HV6 := Lib.hid V6
      have HV7 := Lib.hid V7
      have l7 := V7.lt
      have HA := Lib.hid (ints_any Ap Bp ap bp xp yp wc _ (e1.on BW).rds.rdI (i1.on BW).rds.rdI (by have := hok.params.1; dsimp only at this; omega))
      have HI := Lib.hid (fun q => sameIns_any S T Ai Bi ai bi xi yi (wc.drewN q) ((RdT.insOn e2 BW).insOn (below_drewN wc q)) ((RdT.insOn i2 BW).insOn (below_drewN wc q)) (by have := hok.ins.1; dsimp only at this; omega) (fun y hy => by have := hok.ins.2 y hy; have a1 := this.args.1; have a2 := this.outs.1; omega))
      have HE := Lib.hid (fun W (hb : Below wc.heap.size wc W) => sameEnd_any S T ⟨xk, xc, xa, xe, xt⟩ ⟨yk, yc, ya, ye, yt⟩ Aa Ba At Bt aa ba at_ bt W ((e3.on BW).on hb) (RdT.edgeOn (RdT.edgeOn e4 BW) hb) ((i3.on BW).on hb) (RdT.edgeOn (RdT.edgeOn i4 BW) hb) (by have := hok.fin.args.1; dsimp only at this ⊢; omega) (by have := hok.fin.edges.1; have := St.ecount_len xe; dsimp only at *; omega) (fun e he => by have := (hok.fin.edges.2 e he).2.1; omega))
      unfold finV at HE
      dsimp only at HE
      have hb4 : ∀ q {w3}, Below (wc.drewN q).heap.size (wc.drewN q) w3 → Below wc.heap.size wc w3 := fun q w3 h => (below_drewN wc q).trans (h.mono (Nat.le_refl _))
      have HB4 := Lib.hid hb4
      have HBW := Lib.hid (HB.out.trans (BW.mono HB.out.size))
      have HV2 : Hid (Var wc K2 #[.slice P1 p1.length c1, .slice R1 r1.length c2, .slice V1 v1.length c3, .slice (some ⟨g, o, none⟩) n c4] 27) := Lib.hid (W2.out.below BW W2.out.lt)
      have HV3 : Hid (Var wc K3 #[.slice P2 p2.length d1, .slice R2 r2.length d2, .slice V2 v2.length d3, .slice (some ⟨g2, o2, none⟩) n d4] 27) := Lib.hid (W3.out.below BW W3.out.lt)
      unfold St.blkEq at hR
      dsimp only at hR
      clear V6 V7 BW e1 e2 e3 e4 i1 i2 i3 i4 f0 f1 f2 f3 f4 f5 f6 j0 j1 j2 j3 j4 j5 j6 hok
      obtain ⟨bI, hbI⟩ : ∃ b, St.insSame xi yi = b := ⟨_, rfl⟩
      obtain ⟨bE, hbE⟩ : ∃ b, St.finSame ⟨xk, xc, xa, xe, xt⟩ ⟨yk, yc, ya, ye, yt⟩ = b := ⟨_, rfl⟩
      rw [hbI] at HI hR
      rw [hbE] at HE hR
      clear hbI hbE
      rcases mp : decide (xp = yp) with _ | _
      · rw [mp] at HA hR
        have HF : Hid (R = false) := Lib.hid (by rw [← hR]; rfl)
        clear hR mp hb4
        go_wp2_with (go_at_call 38; refine HA.out.mono ?_; rintro e w2 ⟨rfl, q, rfl⟩)
        go_ret
        exact ⟨by rw [HF.out]; rfl, HBW.out.trans ((below_drewN wc q).mono HBW.out.size)⟩
      rw [mp] at HA hR
      clear mp
      rcases bI with _ | _
      · have HF : Hid (R = false) := Lib.hid (by rw [← hR]; rfl)
        clear hR
        go_wp2_with (first | (go_at_call 38; refine HA.out.mono ?_; rintro e w2 ⟨rfl, q, rfl⟩) | (go_at_call 39; refine (HI.out q).mono ?_; rintro e w3 ⟨rfl, hb3⟩; obtain ⟨ua0, ua1, ua2, ua3, ua4, ua5, ua6⟩ := cells7 (HV6.out.below (hb4 q hb3) HV6.out.lt); obtain ⟨za0, za1, za2, za3, za4, za5, za6⟩ := cells7 (HV7.out.below (hb4 q hb3) HV7.out.lt)))
        go_ret
        exact ⟨by rw [HF.out]; rfl, HBW.out.trans ((hb4 q hb3).mono HBW.out.size)⟩
      rcases bE with _ | _
      · have HF : Hid (R = false) := Lib.hid (by rw [← hR]; rfl)
        clear hR
        go_wp2_with (first | (go_at_call 38; refine HA.out.mono ?_; rintro e w2 ⟨rfl, q, rfl⟩) | (go_at_call 39; refine (HI.out q).mono ?_; rintro e w3 ⟨rfl, hb3⟩; obtain ⟨ua0, ua1, ua2, ua3, ua4, ua5, ua6⟩ := cells7 (HV6.out.below (hb4 q hb3) HV6.out.lt); obtain ⟨za0, za1, za2, za3, za4, za5, za6⟩ := cells7 (HV7.out.below (hb4 q hb3) HV7.out.lt)) | (go_at_call 40; refine (HE.out _ (hb4 q hb3)).mono ?_; rintro e w4 ⟨rfl, hb5⟩))
        go_ret
        exact ⟨by rw [HF.out]; rfl, HBW.out.trans (((hb4 q hb3).trans (hb5.mono (hb4 q hb3).size)).mono HBW.out.size)⟩
      have HF : Hid (St.blkSame (b1.drop (k + 1)) (b2.drop (k + 1)) = R) := Lib.hid (by rw [← hR]; simp)
      clear hR
      go_wp2_with (first | (go_at_call 38; refine HA.out.mono ?_; rintro e w2 ⟨rfl, q, rfl⟩) | (go_at_call 39; refine (HI.out q).mono ?_; rintro e w3 ⟨rfl, hb3⟩; obtain ⟨ua0, ua1, ua2, ua3, ua4, ua5, ua6⟩ := cells7 (HV6.out.below (hb4 q hb3) HV6.out.lt); obtain ⟨za0, za1, za2, za3, za4, za5, za6⟩ := cells7 (HV7.out.below (hb4 q hb3) HV7.out.lt)) | (go_at_call 40; refine (HE.out _ (hb4 q hb3)).mono ?_; rintro e w4 ⟨rfl, hb5⟩))
      have hbz := (hb4 q hb3).trans (hb5.mono (hb4 q hb3).size)
      go_roundw
      case measure => simp [intOf]; omega
      case rel => exact ⟨k + 1, by go_num, by omega, HF, Lib.hid (HBW.out.trans (hbz.mono HBW.out.size)), Lib.hid (HV2.out.below hbz HV2.out.lt), Lib.hid (HV3.out.below hbz HV3.out.lt)⟩
    · have hk2 : k = n := by omega
      have HF : Hid (R = true) := Lib.hid (by rw [← HR.out, hk2, List.drop_of_length_le (by omega), List.drop_of_length_le (by omega)]; rfl)
      have x0 : ¬ (k : Int) < (n : Int) := by omega
      clear hk2
      go_wp2_with fail
      go_ret
      exact ⟨by rw [HF.out]; rfl, HB.out⟩
end Go.Proofs.YtmhmpobjjhbklaaGreatDoor
