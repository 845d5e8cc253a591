/-
  Layer 51, the program: the state of instruction.
-/
import Derived.Test.YtadnfekogmjieaaGreatDoorGMQ2
import Derived.Test.YtadnfekogmjieaaGreatDoorGGJ
set_option linter.unusedVariables false
set_option linter.unusedSimpArgs false
namespace Go.Proofs.YtadnfekogmjieaaGreatDoor
open Go.RowKit
open Mc (Pl Mi Mf)
theorem RdS.away {α : Type} {enc : α → List Value} {w w' : World} {B K k : Nat} {A : Option Addr} {cs : Array Value} {t : TypeId} {l : List α} (h : RdS w B A k enc l) (hk : ∀ x, (enc x).length = k) (hk0 : 0 < k) (hv : Var w K cs t) (hne : ∀ v ∈ cs.toList, ∀ x, (enc x)[0]? ≠ some v) (hg : w.grownBy w' (some K)) : RdS w' B A k enc l := fun hl => by
  obtain ⟨g, o, e, hb, hc⟩ := h hl
  have h0 : 0 < l.length := List.length_pos_iff.2 hl
  obtain ⟨v, hv0⟩ : ∃ v, (enc l[0])[0]? = some v := ⟨(enc l[0])[0]'(by rw [hk]; exact hk0), List.getElem?_eq_getElem _⟩
  have hne : some g ≠ some K := fun e => by
    injection e with e
    subst e
    have := hc 0 h0 0 _ hv0
    rw [hv.cells] at this
    exact hne v (by rw [← Array.getElem?_toList] at this; exact List.mem_of_getElem? this) _ hv0
  exact ⟨g, o, e, hb, fun i hi j v hj => hg.cell (hc i hi j v hj) hne⟩
theorem RAt.other {W W' : World} {N K Kx : Nat} {l : List (List UInt8)} {ok : Bool} {cs : Array Value} {t : TypeId} (h : RAt W N K l ok) (hv : Var W Kx cs t) (hne : K ≠ Kx) (hns : ∀ v ∈ cs.toList, ∀ x : List UInt8, (encS x)[0]? ≠ some v) (hg : W.grownBy W' (some Kx)) : RAt W' N K l ok := by
  obtain ⟨⟨A, c, hv1, hr, hc⟩, hN, wd⟩ := h
  exact ⟨⟨A, c, var_stay hv1 hg hne, hr.away encS_len (by omega) hv hns hg, hc⟩, Nat.le_trans hN hg.size, wd⟩
def RowP (W : World) (K : Nat) (A : Option Addr) (l : List Pl) : Prop := RdS W W.heap.size A 2 encPl l ∧ ∀ g o, A = some ⟨g, o, none⟩ → K < g ∧ ∃ cs, W.heap[g]? = some (.cells cs 64 (0, 0))
theorem RowP.stay {W W' : World} {K k : Nat} {A : Option Addr} {l : List Pl} (h : RowP W K A l) (hg : W.grownBy W' (some k)) (hk : k ≤ K) : RowP W' K A l := by
  refine ⟨fun hl => ?_, fun g o e => ?_⟩
  case refine_2 =>
    obtain ⟨h2, cs, hcs⟩ := h.2 g o e
    exact ⟨h2, cs, (hg.block g (Array.getElem?_eq_some_iff.1 hcs).1 (fun e => by injection e with e; omega)).trans hcs⟩
  obtain ⟨g, o, e, hb, hc⟩ := h.1 hl
  have h2 := (h.2 g o e).1
  have := hg.size
  exact ⟨g, o, e, by omega, fun i hi j v hj => hg.cell (hc i hi j v hj) (fun e => by injection e with e; dsimp only at e; omega)⟩
theorem RowP.nil_ {W : World} {K : Nat} : RowP W K none [] := ⟨RdS.nil_, fun g o e => by cases e⟩
theorem RowP.own {W : World} {K base n c : Nat} {A : Option Addr} {l : List Pl} (h : W.ownsRow base 64 2 (.slice A n c) n (l.flatMap encPl)) (hb : K < base) : RowP W K A l := by
  refine ⟨own_rds encPl_len (by omega) h, fun g o e => ?_⟩
  subst e
  have h1 := (h.lt g rfl).1
  obtain ⟨_, h2⟩ := h
  rcases h2 with ⟨h2, _⟩ | ⟨g', cap, cur, hv, _, hh, _⟩
  · cases h2
  · injection hv with hv
    injection hv with hv
    injection hv with hv
    subst hv
    exact ⟨by omega, cur, hh⟩
theorem RowP.apart {W W' : World} {K base k n : Nat} {A : Option Addr} {l : List Pl} {v : Value} {xs : List Value} {e : TypeId} (h : RowP W K A l) (ho : W.ownsRow base e k v n xs) (hte : (64 : TypeId) ≠ e) (hg : W.grownBy W' v.ownBlock) : RowP W' K A l := by
  have hne : ∀ g o, A = some ⟨g, o, none⟩ → some g ≠ v.ownBlock := fun g o e hk => by
    obtain ⟨_, cs, hcs⟩ := h.2 g o e
    exact own_ne_var ho hcs hte hk.symm
  refine ⟨fun hl => ?_, fun g o e => ?_⟩
  · obtain ⟨g, o, e, hb, hc⟩ := h.1 hl
    have := hg.size
    exact ⟨g, o, e, by omega, fun i hi j v hj => hg.cell (hc i hi j v hj) (hne g o e)⟩
  · obtain ⟨h2, cs, hcs⟩ := h.2 g o e
    exact ⟨h2, cs, (hg.block g (Array.getElem?_eq_some_iff.1 hcs).1 (hne g o e)).trans hcs⟩
theorem RowP.below {W W' : World} {K : Nat} {A : Option Addr} {l : List Pl} (h : RowP W K A l) (hb : Below W.heap.size W W') : RowP W' K A l := ⟨h.1.on hb, fun g o e => by
  obtain ⟨h2, cs, hcs⟩ := h.2 g o e
  exact ⟨h2, cs, (hb.block g (Array.getElem?_eq_some_iff.1 hcs).1).trans hcs⟩⟩
theorem info_int : (Tryz.prog.info? 3).map (fun i => (i.zero, i.size, i.bytes)) = some (some (.int .i64 0), 1, 8) := by kernel_rfl
theorem one_int (W : World) (z : Int) : Reads (W.alloc (.cells #[.int .i64 z] 3)) (W.alloc (.cells #[.int .i64 z] 3)).heap.size 1 (some ⟨W.heap.size, 0, none⟩) 1 ([z].flatMap encZ) := block_reads (cs := #[.int .i64 z]) rfl (heap_alloc_new W _)
theorem RowP.rdp {W : World} {K N : Nat} {A : Option Addr} {l : List Pl} (h : RowP W K A l) (hN : N ≤ K) : RdP W (fun g => N ≤ g) A l := fun hl => by
  obtain ⟨g, o, e, hb, hc⟩ := h.1 hl
  have h2 := (h.2 g o e).1
  exact ⟨g, o, e, by omega, hb, fun i hi => ⟨hc i hi 0 _ rfl, hc i hi 1 _ rfl⟩⟩
theorem own_room {W : World} {base n c k m : Nat} {A : Option Addr} {xs : List Value} {e : TypeId} (h : W.ownsRow base e k (.slice A n c) m xs) : n ≤ c := by
  obtain ⟨_, h⟩ := h
  rcases h with ⟨h, _⟩ | ⟨g, cap, cur, hv, _, _, h, _⟩
  · injection h with _ h _; omega
  · injection hv with _ h1 h2; omega
theorem own_rdzS {W : World} {base n c : Nat} {A : Option Addr} {l : List Int} {e : TypeId} (h : W.ownsRow base e 1 (.slice A n c) n (l.flatMap encZ)) {N : Nat} (hN : N ≤ base) : RdZ W (fun g => N ≤ g) A l := (own_rdz h).mono (fun g _ hg => Nat.le_trans hN hg)
theorem miV_nos (x : Mi) (A : Option Addr) (c : Nat) (B : Option Addr) (d : Nat) (T : Option Addr) (e : Nat) : ∀ v ∈ (miV x A c B d T e).toList, ∀ y : List UInt8, (encS y)[0]? ≠ some v := by
  intro v hv y
  simp [miV] at hv
  rcases hv with rfl | rfl | rfl | rfl | rfl | rfl | rfl | rfl | rfl <;> simp [encS]
def zeroMi : Array Value := #[.int .i64 0, .int .i64 0, .int .i64 0, .int .i64 0, .int .u64 0, .slice none 0 0, .slice none 0 0, .slice none 0 0, .int .i64 0]
structure ISt (w W : World) (K1 Kr Kx Ky : Nat) (rc : Array Value) (x : Mi) (r : Mc.Rs) (A : Option Addr) (c : Nat) (B : Option Addr) (d : Nat) (T : Option Addr) (e : Nat) : Prop where
  bel : Below w.heap.size w W
  res : Var W K1 zeroMi 61
  rd : RAt W Kr Kr r.l r.ok
  cur : Var W Kx (miV x A c B d T e) 61
  row : Var W Ky rc 143
  dr : RowP W Ky A x.d
  sr : RowP W Ky B x.s
  own : W.ownsRow (Ky + 1) 3 1 (.slice T x.tos.length e) x.tos.length (x.tos.flatMap encZ)
  lo : w.heap.size ≤ K1
  l1 : K1 < Kr
  l2 : Kr < Kx
  l3 : Kx < Ky
  dc : x.d.length ≤ c
def IEx (w W : World) (K1 Kr Kx Ky : Nat) (rc : Array Value) (x : Mi) (r : Mc.Rs) : Prop := ∃ A c B d T e, ISt w W K1 Kr Kx Ky rc x r A c B d T e
section
variable {w W W' : World} {K1 Kr Kx Ky : Nat} {rc : Array Value} {x : Mi} {r : Mc.Rs} {A B T : Option Addr} {c d e : Nat}
theorem ISt.ex (S : ISt w W K1 Kr Kx Ky rc x r A c B d T e) : IEx w W K1 Kr Kx Ky rc x r := ⟨A, c, B, d, T, e, S⟩
theorem ISt.lty (S : ISt w W K1 Kr Kx Ky rc x r A c B d T e) : Ky < W.heap.size := S.row.lt
theorem ISt.ltx (S : ISt w W K1 Kr Kx Ky rc x r A c B d T e) : Kx < W.heap.size := S.cur.lt
theorem ISt.step (S : ISt w W K1 Kr Kx Ky rc x r A c B d T e) {r' : Mc.Rs} (hr : RAt W' Kr Kr r'.l r'.ok) (hg : W.grownBy W' (some Kr)) : ISt w W' K1 Kr Kx Ky rc x r' A c B d T e := by
  obtain ⟨h1, h2, h3, h4, h5, h6, h7, h8, h9, h10, h11, h12, h13⟩ := S
  exact ⟨below_grown h1 hg h1.size (by omega), var_stay h2 hg (by omega), hr, var_stay h4 hg (by omega), var_stay h5 hg (by omega), h6.stay hg (by omega), h7.stay hg (by omega), own_stay h8 hg (by omega), h9, h10, h11, h12, h13⟩
theorem ISt.below (S : ISt w W K1 Kr Kx Ky rc x r A c B d T e) (hb : Below W.heap.size W W') : ISt w W' K1 Kr Kx Ky rc x r A c B d T e := by
  obtain ⟨h1, h2, h3, h4, h5, h6, h7, h8, h9, h10, h11, h12, h13⟩ := S
  exact ⟨h1.trans (hb.mono h1.size), var_keep h2 hb, h3.below hb, var_keep h4 hb, var_keep h5 hb, h6.below hb, h7.below hb, own_belowW h8 hb, h9, h10, h11, h12, h13⟩
theorem ISt.cells (S : ISt w W K1 Kr Kx Ky rc x r A c B d T e) : ∀ i, i < 9 → W.frozen? ⟨Kx, i, none⟩ = false ∧ ∃ v, W.cell? ⟨Kx, i, none⟩ = some v := by
  intro i hi
  refine ⟨S.cur.froz i, ?_⟩
  rw [S.cur.cells]
  exact ⟨_, Array.getElem?_eq_getElem (by simpa [miV] using hi)⟩
theorem ISt.rdc (S : ISt w W K1 Kr Kx Ky rc x r A c B d T e) : ∃ a n, W.cell? ⟨Kr, 0, none⟩ = some (.slice a r.l.length n) ∧ W.cell? ⟨Kr, 1, none⟩ = some (.bool r.ok) ∧ r.l.length ≤ n ∧ (∀ s t, r.l = s :: t → ∃ g o, a = some ⟨g, o, none⟩ ∧ W.cell? ⟨g, o, none⟩ = some (.string ⟨s.toArray⟩)) := by
  obtain ⟨⟨a, n, hv, hr, hn⟩, -, -⟩ := S.rd
  obtain ⟨q0, q1⟩ := cells2 hv
  refine ⟨a, n, q0, q1, hn, fun s t hs => ?_⟩
  rw [hs] at hr
  obtain ⟨g, o, ha, hg, h0⟩ := hr.get (i := 0) (by simp)
  have f0 := h0 0 _ rfl
  simp only [Nat.zero_mul, Nat.add_zero, List.getElem_cons_zero] at f0
  exact ⟨g, o, ha, f0⟩
theorem ISt.set (S : ISt w W K1 Kr Kx Ky rc x r A c B d T e) (i : Nat) (u : Value) {y : Mi} {A' c' B' d'} (hy : (miV x A c B d T e).setIfInBounds i u = miV y A' c' B' d' T e) (h6 : RowP W Ky A' y.d) (h7 : RowP W Ky B' y.s) (he : y.tos = x.tos) (hdc : y.d.length ≤ c') : ISt w (W.setCell ⟨Kx, i, none⟩ u) K1 Kr Kx Ky rc y r A' c' B' d' T e := by
  have hg := grown_set W Kx i u
  have hs := S.cur.set i u
  rw [hy] at hs
  have hv := S.cur
  obtain ⟨h1, h2, h3, -, h5, -, -, h8, h9, h10, h11, h12, -⟩ := S
  exact ⟨h1.setCell (p := ⟨Kx, i, none⟩) (by show w.heap.size ≤ Kx; omega) u, var_stay h2 hg (by omega), h3.other hv (by omega) (miV_nos _ _ _ _ _ _ _) hg, hs, var_stay h5 hg (by omega), h6.stay hg (by omega), h7.stay hg (by omega), by rw [he]; exact own_stay h8 hg (by omega), h9, h10, h11, h12, hdc⟩
theorem ISt.setOp (S : ISt w W K1 Kr Kx Ky rc x r A c B d T e) (z : Int) : ISt w (W.setCell ⟨Kx, 1, none⟩ (.int .i64 z)) K1 Kr Kx Ky rc ⟨x.kind, z, x.a, x.b, x.n, x.d, x.s, x.tos, x.trap⟩ r A c B d T e := S.set 1 _ (by simp [miV]) S.dr S.sr rfl S.dc
theorem ISt.setA (S : ISt w W K1 Kr Kx Ky rc x r A c B d T e) (z : Int) : ISt w (W.setCell ⟨Kx, 2, none⟩ (.int .i64 z)) K1 Kr Kx Ky rc ⟨x.kind, x.op, z, x.b, x.n, x.d, x.s, x.tos, x.trap⟩ r A c B d T e := S.set 2 _ (by simp [miV]) S.dr S.sr rfl S.dc
theorem ISt.setB (S : ISt w W K1 Kr Kx Ky rc x r A c B d T e) (z : Int) : ISt w (W.setCell ⟨Kx, 3, none⟩ (.int .i64 z)) K1 Kr Kx Ky rc ⟨x.kind, x.op, x.a, z, x.n, x.d, x.s, x.tos, x.trap⟩ r A c B d T e := S.set 3 _ (by simp [miV]) S.dr S.sr rfl S.dc
theorem ISt.setN (S : ISt w W K1 Kr Kx Ky rc x r A c B d T e) (z : Nat) : ISt w (W.setCell ⟨Kx, 4, none⟩ (.int .u64 (z : Int))) K1 Kr Kx Ky rc ⟨x.kind, x.op, x.a, x.b, z, x.d, x.s, x.tos, x.trap⟩ r A c B d T e := S.set 4 _ (by simp [miV]) S.dr S.sr rfl S.dc
theorem ISt.setTrap (S : ISt w W K1 Kr Kx Ky rc x r A c B d T e) (z : Int) : ISt w (W.setCell ⟨Kx, 8, none⟩ (.int .i64 z)) K1 Kr Kx Ky rc ⟨x.kind, x.op, x.a, x.b, x.n, x.d, x.s, x.tos, z⟩ r A c B d T e := S.set 8 _ (by simp [miV]) S.dr S.sr rfl S.dc
theorem ISt.setD (S : ISt w W K1 Kr Kx Ky rc x r A c B d T e) {A' c' l} (h : RowP W Ky A' l) (hc : l.length ≤ c') : ISt w (W.setCell ⟨Kx, 5, none⟩ (.slice A' l.length c')) K1 Kr Kx Ky rc ⟨x.kind, x.op, x.a, x.b, x.n, l, x.s, x.tos, x.trap⟩ r A' c' B d T e := S.set 5 _ (by simp [miV]) h S.sr rfl hc
theorem ISt.setS (S : ISt w W K1 Kr Kx Ky rc x r A c B d T e) {A' c' l} (h : RowP W Ky A' l) : ISt w (W.setCell ⟨Kx, 6, none⟩ (.slice A' l.length c')) K1 Kr Kx Ky rc ⟨x.kind, x.op, x.a, x.b, x.n, x.d, l, x.tos, x.trap⟩ r A c A' c' T e := S.set 6 _ (by simp [miV]) S.dr h rfl S.dc
theorem ISt.app (S : ISt w W K1 Kr Kx Ky rc x r A c B d T e) {z : Int} {T' : Option Addr} {e' : Nat} (own : W'.ownsRow (Ky + 1) 3 1 (.slice T' (x.tos.length + 1) e') (x.tos.length + 1) ((x.tos ++ [z]).flatMap encZ)) (hg : W.grownBy W' (Value.slice T x.tos.length e).ownBlock) :
    ISt w (W'.setCell ⟨Kx, 7, none⟩ (.slice T' (x.tos.length + 1) e')) K1 Kr Kx Ky rc ⟨x.kind, x.op, x.a, x.b, x.n, x.d, x.s, x.tos ++ [z], x.trap⟩ r A c B d T' e' := by
  obtain ⟨h1, h2, h3, h4, h5, h6, h7, h8, h9, h10, h11, h12, h13⟩ := S
  have hge : ∀ j, (Value.slice T x.tos.length e).ownBlock = some j → Ky + 1 ≤ j := fun j hj => (h8.lt j hj).1
  have k2 := var_grown h2 h8 (by decide) hg
  have k4 := var_grown h4 h8 (by decide) hg
  have k5 := var_grown h5 h8 (by decide) hg
  have k3 := h3.grown h8 (by omega) (by decide) hg
  have k6 := h6.apart h8 (by decide) hg
  have k7 := h7.apart h8 (by decide) hg
  have k1 : Below w.heap.size w W' := h1.grown hg h1.size (fun j hj => by have := hge j hj; omega)
  have gs := grown_set W' Kx 7 (.slice T' (x.tos.length + 1) e')
  have hs := k4.set 7 (.slice T' (x.tos.length + 1) e')
  exact ⟨k1.setCell (p := ⟨Kx, 7, none⟩) (by show w.heap.size ≤ Kx; omega) _, var_stay k2 gs (by omega), k3.other k4 (by omega) (miV_nos _ _ _ _ _ _ _) gs, by rw [show miV ⟨x.kind, x.op, x.a, x.b, x.n, x.d, x.s, x.tos ++ [z], x.trap⟩ A c B d T' e' = (miV x A c B d T e).setIfInBounds 7 (.slice T' (x.tos.length + 1) e') by simp [miV]]; exact hs, var_stay k5 gs (by omega), k6.stay gs (by omega), k7.stay gs (by omega), by rw [List.length_append]; exact own_stay own gs (by omega), h9, h10, h11, h12, h13⟩
theorem ISt.rdi (S : ISt w W K1 Kr Kx Ky rc x r A c B d T e) : MiRd (fun g => w.heap.size ≤ g) W x A B T := ⟨S.dr.rdp (by have := S.lo; have := S.l1; have := S.l2; have := S.l3; omega), S.sr.rdp (by have := S.lo; have := S.l1; have := S.l2; have := S.l3; omega), own_rdzS S.own (by have := S.lo; have := S.l1; have := S.l2; have := S.l3; omega)⟩
end
theorem RAt.new {w1 : World} {A : Option Addr} {L : List (List UInt8)} (hs : L.length ≤ 1000000 ∧ ∀ s ∈ L, s.length ≤ 1000000) (h : RdS w1 w1.heap.size A 1 encS L) :
    RAt (w1.alloc (.cells #[.slice A L.length L.length, .bool true] 165)) w1.heap.size w1.heap.size L true :=
  ⟨⟨A, _, Var.new _ _ _, h.below ((Below.refl _ _).alloc (Nat.le_refl _) _), Nat.le_refl _⟩, by simp, hs⟩
theorem info_mi9 : (Tryz.prog.info? 61).map (·.size) = some 9 := by kernel_rfl
def IOut (N : Nat) (R : Mi × Bool) (e : Ending) (w' : World) : Prop :=
  ∃ A c B d T f, e = .returned (.tuple #[.agg (miV R.1 A c B d T f), .bool R.2]) ∧ MiRd (fun g => N ≤ g) w' R.1 A B T ∧ R.1.d.length ≤ c
theorem iFin {w W X : World} {K1 Kr Kx Ky : Nat} {rc : Array Value} {x : Mi} {r : Mc.Rs} {A B T : Option Addr} {c d e : Nat} (S : ISt w W K1 Kr Kx Ky rc x r A c B d T e) (hX : Below W.heap.size W X) (cs : Array Value) :
    Below w.heap.size w (X.setRow K1 cs) ∧ MiRd (fun g => w.heap.size ≤ g) (X.setRow K1 cs) x A B T := by
  have T' := S.below hX
  have hg := setRow_grown X K1 cs
  have l1 := T'.l1
  have l2 := T'.l2
  have l3 := T'.l3
  have lo := T'.lo
  exact ⟨below_grown T'.bel hg T'.bel.size T'.lo, (T'.dr.stay hg (by omega)).rdp (by omega), (T'.sr.stay hg (by omega)).rdp (by omega), own_rdzS (own_stay T'.own hg (by omega)) (by omega)⟩
namespace Mc
theorem numO_len (r : Rs) : (numO r).2.l.length ≤ r.l.length := by simp only [numO, List.length_tail]; omega
theorem natF_in (w : W) : 0 ≤ (natP w).1 ∧ (natP w).1 ≤ 4294967295 := by
  unfold natP Ltr.natF
  split
  · simp
  · split
    · simp
    · rename_i h
      dsimp only
      simp only [not_or, Int.not_lt] at h
      omega
theorem natP_inR (w : W) : InR (natP w).1 := by have := natF_in w; unfold InR; omega
theorem optNum_in (b : Bool) (r : Rs) : InR (optNum b r).1 ∧ (optNum b r).2.l.length ≤ r.l.length := by
  unfold optNum
  split
  · exact ⟨natP_inR _, numO_len r⟩
  · exact ⟨by simp [InR], Nat.le_refl _⟩
theorem optN_in (b : Bool) (r : Rs) : (optN b r).1 < 18446744073709551616 ∧ (optN b r).2.l.length ≤ r.l.length := by
  unfold optN
  split
  · refine ⟨puint_in _, ?_⟩
    simp only [nxt, List.length_tail]; omega
  · simp
theorem opFind_in (w : W) : InR (opFind w).1 := by
  unfold opFind
  rcases h : Opc.seek w Opc.all with _ | op
  · simp [InR]
  · have := op_range _ (seek_mem h)
    dsimp only at this ⊢
    unfold InR; omega
theorem optOp_in (b : Bool) (r : Rs) : InR (optOp b r).1 ∧ (optOp b r).2.l.length ≤ r.l.length := by
  unfold optOp
  split
  · refine ⟨opFind_in _, ?_⟩
    simp only [nxt, List.length_tail]; omega
  · exact ⟨by simp [InR], Nat.le_refl _⟩
theorem spotsGo_in : ∀ (l : List W) (ok : Bool), ((spotsGo l ok).1.length ≤ l.length ∧ ∀ p ∈ (spotsGo l ok).1, InR p.n) ∧ (spotsGo l ok).2.l.length ≤ l.length
  | [], ok => by simp [spotsGo]
  | w :: l, ok => by
    have ih := spotsGo_in l (ok && (natP w.tail).2)
    unfold spotsGo
    split
    · refine ⟨⟨by simp; omega, fun p hp => ?_⟩, by simp; omega⟩
      rcases List.mem_cons.1 hp with rfl | hp
      · exact natP_inR _
      · exact ih.1.2 p hp
    · simp
theorem numsGo_in : ∀ (l : List W) (ok : Bool), (numsGo l ok).1.length = l.length ∧ ∀ z ∈ (numsGo l ok).1, InR z
  | [], ok => by simp [numsGo]
  | w :: l, ok => by
    have ih := numsGo_in l (ok && (natP w).2)
    unfold numsGo
    refine ⟨by simp [ih.1], fun z hz => ?_⟩
    rcases List.mem_cons.1 hz with rfl | hz
    · exact natP_inR _
    · exact ih.2 z hz
theorem srcO_in (r : Rs) : ((srcO r).1.length ≤ r.l.length ∧ ∀ p ∈ (srcO r).1, InR p.n) ∧ (srcO r).2.l.length ≤ r.l.length := by
  have := spotsGo_in r.l.tail r.ok
  unfold srcO
  split
  · simp only [List.length_tail] at this
    exact ⟨⟨by omega, this.1.2⟩, by omega⟩
  · simp
theorem toO_in (r : Rs) : (toO r).1.length ≤ r.l.length ∧ ∀ p ∈ (toO r).1, InR p := by
  have := numsGo_in r.l.tail r.ok
  unfold toO
  split
  · simp only [List.length_tail] at this
    exact ⟨by dsimp only; omega, this.2⟩
  · simp
theorem insF_ok (k : Int) (hk : InR k) (r : Rs) (h : r.l.length ≤ 100000) : (insF k r).1.Ok := by
  unfold insF
  dsimp only
  have h1 := optOp_in (row k).op r
  have h2 := optNum_in (row k).a (optOp (row k).op r).2
  have h3 := optNum_in (row k).b (optNum (row k).a (optOp (row k).op r).2).2
  have h4 := optN_in (row k).n (optNum (row k).b (optNum (row k).a (optOp (row k).op r).2).2).2
  have h5 := optNum_in (row k).t (optN (row k).n (optNum (row k).b (optNum (row k).a (optOp (row k).op r).2).2).2).2
  have h6 := spotsGo_in (optNum (row k).t (optN (row k).n (optNum (row k).b (optNum (row k).a (optOp (row k).op r).2).2).2).2).2.l (optNum (row k).t (optN (row k).n (optNum (row k).b (optNum (row k).a (optOp (row k).op r).2).2).2).2).2.ok
  have h7 := srcO_in (spotsGo (optNum (row k).t (optN (row k).n (optNum (row k).b (optNum (row k).a (optOp (row k).op r).2).2).2).2).2.l (optNum (row k).t (optN (row k).n (optNum (row k).b (optNum (row k).a (optOp (row k).op r).2).2).2).2).2.ok).2
  have h8 := toO_in (srcO (spotsGo (optNum (row k).t (optN (row k).n (optNum (row k).b (optNum (row k).a (optOp (row k).op r).2).2).2).2).2.l (optNum (row k).t (optN (row k).n (optNum (row k).b (optNum (row k).a (optOp (row k).op r).2).2).2).2).2.ok).2).2
  have a1 := h1.2
  have a2 := h2.2
  have a3 := h3.2
  have a4 := h4.2
  have a5 := h5.2
  have a6 := h6.2
  have a7 := h7.2
  have b6 := h6.1.1
  have b7 := h7.1.1
  have b8 := h8.1
  exact ⟨hk, h1.1, h2.1, h3.1, h4.1, ⟨by dsimp only; omega, h6.1.2⟩, ⟨by dsimp only; omega, h7.1.2⟩, ⟨by dsimp only; omega, h8.2⟩, h5.1⟩
end Mc
end Go.Proofs.YtadnfekogmjieaaGreatDoor
