/-
  The worked example of chapter 18 holds.
-/
import Derived.Test.YtbnddnoognoekaaScopeFind
import Derived.Test.YtbnddnoognoekaaScopePush
set_option linter.unusedVariables false
namespace Go.Proofs.Ytbnddnoognoekaa
open Go.RowKit Go.Maps

theorem wf_1 : (Lit.int .i64 1).wf = true := by decide
def nmF : Nm := [36, 102]
def nmG : Nm := [36, 103]
def nmA : Nm := [36, 97]
def sc0 : SSt := ⟨fun _ => [], []⟩
def sc1 : SSt := { sc0 with k := upd sc0.k 1 [nmF] }
def sc2 : SSt := { sc1 with k := upd sc1.k 1 [nmF, []] }
theorem a1 {W : World} {B s : Nat} {y : Lay} (h : ScopeAt W B s y sc0) :
    Calls Try.prog 9 #[.pointer (some ⟨s, 0, none⟩), .int .i64 1, .string ⟨#[36, 102]⟩] W fun e w' => e = .returned (.tuple #[.int .i64 0, .int .i64 0]) ∧ ∃ y', ScopeAt w' B s y' sc1 ∧ Turned W w' B s y y' :=
  add_new h 1 wf_1 nmF (by decide) (by decide) (by decide) (by decide) rfl (by decide)
theorem a2 {W : World} {B s : Nat} {y : Lay} (h : ScopeAt W B s y sc1) :
    Calls Try.prog 9 #[.pointer (some ⟨s, 0, none⟩), .int .i64 1, .string ⟨#[]⟩] W fun e w' => e = .returned (.tuple #[.int .i64 1, .int .i64 0]) ∧ ∃ y', ScopeAt w' B s y' sc2 ∧ Turned W w' B s y y' :=
  add_empty h 1 wf_1 (by decide) (by decide)
theorem a3 {W : World} {B s : Nat} {y : Lay} (h : ScopeAt W B s y sc2) :
    Calls Try.prog 9 #[.pointer (some ⟨s, 0, none⟩), .int .i64 1, .string ⟨#[36, 102]⟩] W fun e w' => e = .returned (.tuple #[.int .i64 0, .int .i64 21]) ∧ W = w' :=
  add_twice h 1 wf_1 nmF (by decide) (by decide) (by decide) (by decide) 0 rfl
theorem a4 {W : World} {B s : Nat} {y : Lay} (h : ScopeAt W B s y sc2) :
    Calls Try.prog 14 #[.pointer (some ⟨s, 0, none⟩), .int .i64 1, .string ⟨#[36, 102]⟩] W fun e w' => e = .returned (.tuple #[.int .i64 0, .int .i64 0]) ∧ W = w' :=
  find_dollar h 1 wf_1 nmF (by decide) rfl (by decide)
theorem a5 {W : World} {B s : Nat} {y : Lay} (h : ScopeAt W B s y sc2) :
    Calls Try.prog 14 #[.pointer (some ⟨s, 0, none⟩), .int .i64 1, .string ⟨#[55]⟩] W fun e w' => e = .returned (.tuple #[.int .i64 7, .int .i64 0]) ∧ W = w' :=
  find_plain h 1 wf_1 [55] (by decide) (by decide) (by decide) 7 0 (nat_7 W)
theorem a6 {W : World} {B s : Nat} {y : Lay} (h : ScopeAt W B s y sc2) :
    Calls Try.prog 14 #[.pointer (some ⟨s, 0, none⟩), .int .i64 1, .string ⟨#[36, 103]⟩] W fun e w' => e = .returned (.tuple #[.int .i64 0, .int .i64 24]) ∧ W = w' :=
  find_dollar h 1 wf_1 nmG (by decide) rfl (by decide)
theorem a7 {W : World} {B s : Nat} {y : Lay} (h : ScopeAt W B s y sc2) :
    Calls Try.prog 10 #[.pointer (some ⟨s, 0, none⟩), .string ⟨#[36, 97]⟩] W fun e w' => e = .returned (.tuple #[]) ∧ ∃ y', ScopeAt w' B s y' ⟨sc2.k, [nmA]⟩ ∧ Turned W w' B s y y' :=
  push_any h nmA (by decide)
theorem a8 {W : World} {B s : Nat} {y : Lay} (h : ScopeAt W B s y ⟨sc2.k, [nmA]⟩) :
    Calls Try.prog 10 #[.pointer (some ⟨s, 0, none⟩), .string ⟨#[]⟩] W fun e w' => e = .returned (.tuple #[]) ∧ ∃ y', ScopeAt w' B s y' ⟨sc2.k, [nmA, []]⟩ ∧ Turned W w' B s y y' :=
  push_any h [] (by simp)
theorem a9 {W : World} {B s : Nat} {y : Lay} (h : ScopeAt W B s y ⟨sc2.k, [nmA, []]⟩) :
    Calls Try.prog 12 #[.pointer (some ⟨s, 0, none⟩), .string ⟨#[36, 97]⟩] W fun e w' => e = .returned (.tuple #[.int .i64 1, .int .i64 0]) ∧ ∃ q, w' = W.drewN q :=
  label_dollar h nmA rfl (by decide) (by simp)
theorem a10 {W : World} {B s : Nat} {y : Lay} (h : ScopeAt W B s y ⟨sc2.k, [nmA, []]⟩) :
    Calls Try.prog 27 #[.pointer (some ⟨s, 0, none⟩), .int .i64 1] W fun e w' => ∃ g c, e = .returned (.slice (some ⟨g, 0, none⟩) 1 c) ∧ w'.cell? ⟨g, 0, none⟩ = some (.int .i64 0) ∧ w'.cell? ⟨g, 1, none⟩ = some (.string ⟨#[102]⟩) ∧ Below W.heap.size W w' := by
  refine (names_any h 1 wf_1 (by decide) (by decide)).mono ?_
  rintro e w' ⟨A, c, rfl, hown, hb⟩
  have hown' : w'.ownsRow W.heap.size 61 2 (.slice A 1 c) 1 [.int .i64 0, .string ⟨#[102]⟩] := hown
  obtain ⟨g, cap, hv, _, _⟩ := hown'.form (by omega)
  injection hv with hA _ hc
  subst hA hc
  exact ⟨g, c, rfl, (hown'.cellAt 0 (by omega)).trans rfl, (hown'.cellAt 1 (by omega)).trans rfl, hb⟩

set_option maxHeartbeats 2000000 in
set_option maxRecDepth 100000 in
theorem alive_any (w : World) : Calls Try.prog 7 #[] w fun e w' => e = .returned (.bool true) ∧ Below w.heap.size w w' := by
  obtain ⟨B, hB⟩ : ∃ B, w.heap.size = B := ⟨_, rfl⟩
  have C0 : Hid (Calls Try.prog 8 #[] w fun e w' => e = .returned (.pointer (some ⟨B + 1, 0, none⟩)) ∧ NewAt w w' B 9) := by have := new_any w; rw [hB] at this; exact this
  rw [hB]
  clear hB
  go_enter Try.func7, Try.ntmps7
  go_wp2_with fail
  refine C0.out.mono ?_
  rintro e w1 ⟨rfl, hN⟩
  have h0 : ScopeAt w1 B (B + 1) _ sc0 := hN.scope
  have b0 := hN.bel
  clear hN
  go_wp2_with fail
  refine (a1 h0).mono ?_
  rintro e w2 ⟨rfl, y1, h1, t1⟩
  have b1 := b0.trans t1.bel
  clear h0 t1 b0
  go_wp2_with fail
  refine (a2 h1).mono ?_
  rintro e w3 ⟨rfl, y2, h2, t2⟩
  have b2 := b1.trans t2.bel
  clear h1 t2 b1
  go_wp2_with fail
  refine (a3 h2).mono ?_
  rintro e w3 ⟨rfl, rfl⟩
  go_wp2_with fail
  refine (a4 h2).mono ?_
  rintro e w3 ⟨rfl, rfl⟩
  go_wp2_with fail
  refine (a5 h2).mono ?_
  rintro e w3 ⟨rfl, rfl⟩
  go_wp2_with fail
  refine (a6 h2).mono ?_
  rintro e w3 ⟨rfl, rfl⟩
  go_wp2_with fail
  refine (a7 h2).mono ?_
  rintro e w4 ⟨rfl, y3, h3, t3⟩
  have b3 := b2.trans t3.bel
  clear h2 t3 b2
  go_wp2_with fail
  refine (a8 h3).mono ?_
  rintro e w5 ⟨rfl, y4, h4, t4⟩
  have b4 := b3.trans t4.bel
  clear h3 t4 b3
  go_wp2_with fail
  refine (a9 h4).mono ?_
  rintro e w6 ⟨rfl, q, rfl⟩
  have b5 := below_drewN b4 q
  have h5 := h4.below (W' := w5.drewN q) (below_drewN (Below.refl _ _) q)
  have hs5 := (h5.foot_in (b := B + 1) (.inl rfl)).2
  clear h4 b4
  go_wp2_with fail
  refine (a10 h5).mono ?_
  rintro e w7 ⟨g, c, rfl, k0, k1, hb7⟩
  have b7 := b5.trans (hb7.mono (by omega))
  clear h5 b5 hb7
  go_wp2_with fail
  go_ret
  exact ⟨rfl, b7⟩
end Go.Proofs.Ytbnddnoognoekaa
