/-
  The chapter's examples hold.
-/
import Derived.Test.YtnjhbhbohnjckaaTreeParse
import Derived.Test.YtnjhbhbohnjckaaTreeLines
import Derived.Deep.RegionHeld3
set_option linter.unusedVariables false
set_option linter.unusedSimpArgs false
namespace Go.Proofs.Ytnjhbhbohnjckaa
open Go.RowKit
open Tree (Tr)

def exL : List Tr := [.mk 0 0 [] [.mk 2 1 [97] [], .mk 0 3 [] [.mk 2 4 [98] []]]]
theorem parse_ex : Tree.parse [40, 97, 32, 40, 98, 41, 41] = (exL, 0, 0) := by rfl
theorem lines_ex : Tree.linesOf exL = [40, 97, 10, 32, 32, 40, 98, 41, 41, 10] := by rfl
/-- Parse at a constant. -/
theorem parse_at (l : List UInt8) (x : List Tr × Nat × Int) (w : World) (hx : Tree.parse l = x) (hl : l.length ≤ 1000) : Calls Try.prog 9 #[.string ⟨l.toArray⟩] w (RetTree x w) := by
  rw [← hx]; exact parse_any l w (by omega)

/-- What is known of the tree of the example. -/
def ExAt (w w' : World) (A : Option Addr) (c : Nat) : Prop := Lies w' (Fresh w.heap.size w') A exL ∧ Below w.heap.size w w'

set_option maxHeartbeats 4000000 in
set_option maxRecDepth 100000 in
theorem alive_any (w : World) : Calls Try.prog 8 #[] w fun e w' => e = .returned (.bool true) ∧ Below w.heap.size w w' := by
  go_enter Try.func8, Try.ntmps8
  go_wp2_with fail
  refine (parse_at [40, 97, 32, 40, 98, 41, 41] _ _ parse_ex (by simp)).mono ?_
  rintro e w1 ⟨A1, c1, rfl, hl, hc, hcm, hb⟩
  have hlen : (exL, (0 : Nat), (0 : Int)).1.length = 1 := rfl
  rw [hlen] at hc ⊢
  dsimp only at hl
  obtain ⟨g, o, rfl, hg, a0, a1, a2, A2, c2, a3, hl2, hc2, hm2⟩ := hl.get 0 (by decide)
  obtain ⟨g2, o2, rfl, hg2, b0, b1, b2, A3, c3, b3, hl3, hc3, hm3⟩ := hl2.get 0 (by decide)
  obtain ⟨g2', o2', e2, _, d0, d1, d2, A4, c4, d3, hl4, hc4, hm4⟩ := hl2.get 1 (by decide)
  injection e2 with e2; injection e2 with e2 e3; subst e2 e3
  have hbs := hb.size
  have HLN : Hid (∀ w', Below w1.heap.size w1 w' → Calls Try.prog 21 #[.slice (some ⟨g, o, none⟩) 1 c1] w' fun e w'' => e = .returned (.string ⟨#[40, 97, 10, 32, 32, 40, 98, 41, 41, 10]⟩) ∧ Below w'.heap.size w' w'') := fun w' h => by
    have := lines_any exL (some ⟨g, o, none⟩) c1 (Fresh w.heap.size w1) w' (hl.keep (fun k hk => h.block k hk.2) (fun _ hk => hk)) (fun k hk => Nat.lt_of_lt_of_le hk.2 h.size) (by decide) (by decide) (by rw [lines_ex]; decide)
    rw [lines_ex] at this; exact this
  have HCN : Hid (∀ w', Below w1.heap.size w1 w' → Calls Try.prog 14 #[.agg #[.int .i64 0, .int .i64 0, .string ⟨#[]⟩, .slice (some ⟨g2, o2, none⟩) 2 c2]] w' fun e w'' => e = .returned (.int .i64 4) ∧ Below w'.heap.size w' w'') := fun w' h =>
    count_any 100 [.mk 2 1 [97] [], .mk 0 3 [] [.mk 2 4 [98] []]] (by decide) 0 0 ⟨#[]⟩ (some ⟨g2, o2, none⟩) c2 (Fresh w.heap.size w1) w' (hl2.keep (fun k hk => h.block k hk.2) (fun _ hk => hk)) (fun k hk => Nat.lt_of_lt_of_le hk.2 h.size) (by decide)
  have HDN : Hid (∀ w', Below w1.heap.size w1 w' → Calls Try.prog 13 #[.agg #[.int .i64 0, .int .i64 0, .string ⟨#[]⟩, .slice (some ⟨g2, o2, none⟩) 2 c2]] w' fun e w'' => e = .returned (.int .i64 3) ∧ Below w'.heap.size w' w'') := fun w' h =>
    deep_any 100 [.mk 2 1 [97] [], .mk 0 3 [] [.mk 2 4 [98] []]] (by decide) 0 0 ⟨#[]⟩ (some ⟨g2, o2, none⟩) c2 (Fresh w.heap.size w1) w' (hl2.keep (fun k hk => h.block k hk.2) (fun _ hk => hk)) (fun k hk => Nat.lt_of_lt_of_le hk.2 h.size) (by decide)
  have hc2' : 2 ≤ c2 := hc2
  replace a0 : w1.cell? ⟨g, o, none⟩ = some (.int .i64 0) := a0
  replace a1 : w1.cell? ⟨g, o + 1, none⟩ = some (.int .i64 0) := a1
  replace a2 : w1.cell? ⟨g, o + 2, none⟩ = some (.string ⟨#[]⟩) := a2
  replace a3 : w1.cell? ⟨g, o + 3, none⟩ = some (.slice (some ⟨g2, o2, none⟩) 2 c2) := by have := a3; rw [Nat.zero_mul, Nat.add_zero] at this; exact this
  replace b2 : w1.cell? ⟨g2, o2 + 2, none⟩ = some (.string ⟨#[97]⟩) := by have := b2; rw [Nat.zero_mul, Nat.add_zero] at this; exact this
  replace b1 : w1.cell? ⟨g2, o2 + 1, none⟩ = some (.int .i64 1) := by have := b1; rw [Nat.zero_mul, Nat.add_zero] at this; exact this
  replace d1 : w1.cell? ⟨g2, o2 + 4 + 1, none⟩ = some (.int .i64 3) := by have := d1; rw [Nat.one_mul] at this; exact this
  clear hl hl2 hl3 hl4 b0 b3 d0 d2 d3 hc3 hc4 hm3 hm4 hc2
  have bc : ∀ w', Below w1.heap.size w1 w' → (∀ b o, b < w1.heap.size → w'.cell? ⟨b, o, none⟩ = w1.cell? ⟨b, o, none⟩) := fun w' h b o hb => h.cell (p := ⟨b, o, none⟩) hb
  have hgl := hg.2
  have hgl2 := hg2.2
  have BC := Lib.hid bc
  clear bc
  go_wp2_with fail
  (with_reducible refine (HLN.out _ (Below.refl _ _)).mono ?_)
  rintro e w2 ⟨rfl, hb2⟩
  have C2 := BC.out _ hb2
  replace a0 := (C2 g _ hgl).trans a0
  replace a1 := (C2 g _ hgl).trans a1
  replace a2 := (C2 g _ hgl).trans a2
  replace a3 := (C2 g _ hgl).trans a3
  clear C2
  go_wp2_with fail
  (with_reducible refine (HCN.out _ hb2).mono ?_)
  rintro e w3 ⟨rfl, hb3⟩
  have hb3' := hb2.trans (hb3.mono hb2.size)
  have C3 := BC.out _ hb3'
  have C2 := BC.out _ hb2
  replace a0 := (C3 g _ hgl).trans ((C2 g _ hgl).symm.trans a0)
  replace a1 := (C3 g _ hgl).trans ((C2 g _ hgl).symm.trans a1)
  replace a2 := (C3 g _ hgl).trans ((C2 g _ hgl).symm.trans a2)
  replace a3 := (C3 g _ hgl).trans ((C2 g _ hgl).symm.trans a3)
  clear C3 C2 hb3 hb2
  go_wp2_with fail
  (with_reducible refine (HDN.out _ hb3').mono ?_)
  rintro e w4 ⟨rfl, hb4⟩
  have hb4' := hb.trans (((hb3'.trans (hb4.mono hb3'.size))).mono hbs)
  clear a0 a1 a2 a3 b1 b2 d1 HLN HCN HDN BC hb4 hb3'
  go_wp2
  go_ret
  exact ⟨rfl, hb4'⟩
end Go.Proofs.Ytnjhbhbohnjckaa
