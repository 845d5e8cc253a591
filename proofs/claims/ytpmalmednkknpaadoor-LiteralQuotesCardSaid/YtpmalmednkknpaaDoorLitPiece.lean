/-
  The reference's piece: the element at a position.
-/
import Derived.Test.YtpmalmednkknpaaDoorLitEsc
import Derived.Test.YtpmalmednkknpaaDoorLitBraced
set_option linter.unusedVariables false
namespace Go.Proofs.YtpmalmednkknpaaDoor
open Go.RowKit
attribute [local go_sem] ByteArray.extract_mk

/-- The element at position a: its byte c, what follows. -/
def Ltr.pieceF (a : Nat) (c : UInt8) (r : List UInt8) : List UInt8 × Int × Int :=
  if c.toNat < 32 ∨ c = 34 ∨ c = 127 then ([], 0, 4)
  else if c ≠ 92 then ([c], (a : Int) + 1, 0)
  else if (esc r).2.2 = 0 then ((esc r).1, (a : Int) + 1 + (esc r).2.1, 0) else ([], 0, (esc r).2.2)
theorem Ltr.piece_bad (a : Nat) (c : UInt8) (r : List UInt8) (h : c.toNat < 32 ∨ c = 34 ∨ c = 127) : pieceF a c r = ([], 0, 4) := by unfold pieceF; rw [if_pos h]
theorem Ltr.piece_plain (a : Nat) (c : UInt8) (r : List UInt8) (h : ¬ (c.toNat < 32 ∨ c = 34 ∨ c = 127)) (h2 : c ≠ 92) : pieceF a c r = ([c], (a : Int) + 1, 0) := by unfold pieceF; rw [if_neg h, if_pos h2]
theorem Ltr.piece_esc (a : Nat) (r : List UInt8) {l : List UInt8} {n e : Int} (h : esc r = (l, n, e)) : pieceF a 92 r = if e = 0 then (l, (a : Int) + 1 + n, 0) else ([], 0, e) := by
  unfold pieceF
  rw [if_neg (by decide), if_neg (by decide), h]
theorem Ltr.dig_117 : dig 117 < 0 := by decide
theorem Ltr.simp_byte {c d : UInt8} (h : simp1 c = some d) : True := trivial
theorem str_one_at (W : World) (d : Int) (h0 : 0 ≤ d) (h1 : d < 256) : (convert 22 9 (.slice (some ⟨W.heap.size, 0, none⟩) 1 1)).run Tryd.prog (W.alloc (.cells #[.int .u8 d] 5)) = .ok (.string ⟨#[UInt8.ofNat d.toNat]⟩) (W.alloc (.cells #[.int .u8 d] 5)) :=
  str_one (W := W.alloc (.cells #[.int .u8 d] 5)) d h0 h1 (heap_alloc_new W _)

set_option maxHeartbeats 400000 in
set_option maxRecDepth 100000 in
theorem piece_low (L : List UInt8) (a : Nat) (w : World) (hl : L.length ≤ 1000000) (h : a < L.length) (c : UInt8) (hc : L[a] = c) (h92 : c ≠ 92) :
    Calls Tryd.prog 25 #[.string ⟨L.toArray⟩, .int .i64 (a : Int)] w (RetE (Ltr.pieceF a c (L.drop (a + 1))) w) := by
  have a0 : (0 : Int) ≤ (a : Int) := by omega
  have i0 : (a : Int) < (L.length : Int) := by omega
  have hb0 := lba_get L a h c hc
  have hcut : List.take 1 (List.drop a L) = [c] := by rw [List.drop_eq_getElem_cons h, hc]; rfl
  have HC := Lib.hid hcut
  clear hcut
  by_cases h32 : c.toNat < 32
  · have HE := Lib.hid (Ltr.piece_bad a c (L.drop (a + 1)) (.inl h32))
    have d1 : decide ((c.toNat : Int) < 32) = true := by simp; omega
    clear hc h92
    go_enter Tryd.func25, Tryd.ntmps25
    go_wp2_with fail
    go_ret3
    exact retE_mk HE.out (Below.refl _ _)
  · have d1 : decide ((c.toNat : Int) < 32) = false := by simp; omega
    by_cases h34 : c = 34
    · have HE := Lib.hid (Ltr.piece_bad a c (L.drop (a + 1)) (.inr (.inl h34)))
      have d2 : ((c.toNat : Int) == 34) = true := by subst h34; rfl
      clear hc h92 h34
      go_enter Tryd.func25, Tryd.ntmps25
      go_wp2_with fail
      go_ret3
      exact retE_mk HE.out (Below.refl _ _)
    · have d2 := lcne c 34 (by omega) h34
      simp only [Int.cast_ofNat_Int] at d2
      by_cases h127 : c = 127
      · have HE := Lib.hid (Ltr.piece_bad a c (L.drop (a + 1)) (.inr (.inr h127)))
        have d3 : ((c.toNat : Int) == 127) = true := by subst h127; rfl
        clear hc h92 h127 h34
        go_enter Tryd.func25, Tryd.ntmps25
        go_wp2_with fail
        go_ret3
        exact retE_mk HE.out (Below.refl _ _)
      · have d3 := lcne c 127 (by omega) h127
        have d4 := lcne' c 92 (by omega) h92
        simp only [Int.cast_ofNat_Int] at d3 d4
        have HE := Lib.hid (Ltr.piece_plain a c (L.drop (a + 1)) (by rintro (h | h | h); exact h32 h; exact h34 h; exact h127 h) h92)
        have w1 : IntKind.i64.wrap ((a : Int) + 1) = (a : Int) + 1 := by rw [IntKind.wrap_i64]; omega
        clear hc h92 h127 h34
        go_enter Tryd.func25, Tryd.ntmps25
        go_wp2_with fail
        go_ret3
        simp only [HC.out]
        exact retE_mk HE.out (Below.refl _ _)

set_option maxHeartbeats 400000 in
set_option maxRecDepth 100000 in
theorem piece_end (L : List UInt8) (a : Nat) (w : World) (hl : L.length ≤ 1000000) (h : a < L.length) (hc : L[a] = 92) (he : L.length = a + 1) :
    Calls Tryd.prog 25 #[.string ⟨L.toArray⟩, .int .i64 (a : Int)] w (RetE (([], 0, 4)) w) := by
  have a0 : (0 : Int) ≤ (a : Int) := by omega
  have i0 : (a : Int) < (L.length : Int) := by omega
  have hb0 := lba_get L a h 92 hc
  clear hc
  have i1 : (L.length : Int) ≤ (a : Int) + 1 := by omega
  go_enter Tryd.func25, Tryd.ntmps25
  go_wp2_with fail
  go_ret3
  exact retE_mk rfl (Below.refl _ _)

set_option maxHeartbeats 400000 in
set_option maxRecDepth 100000 in
theorem piece_simple (L : List UInt8) (a : Nat) (w : World) (hl : L.length ≤ 1000000) (h : a + 1 < L.length) (hc : L[a] = 92) (x : UInt8) (hx : L[a + 1] = x) (d : UInt8) (hs : Ltr.simp1 x = some d) :
    Calls Tryd.prog 25 #[.string ⟨L.toArray⟩, .int .i64 (a : Int)] w (RetE ([d], (a : Int) + 2, 0) w) := by
  have a0 : (0 : Int) ≤ (a : Int) := by omega
  have i0 : (a : Int) < (L.length : Int) := by omega
  have hb0 := lba_get L a (by omega) 92 hc
  clear hc
  have hb1 := lba_get L (a + 1) h x hx
  have HS : Hid (∀ W : World, Calls Tryd.prog 35 #[.int .u8 ((x).toNat : Int)] W fun e w' => e = .returned (.int .i64 (escI (Ltr.simp1 x))) ∧ W = w') := Lib.hid (fun W => escaped_any x W)
  rw [hs] at HS
  unfold escI at HS
  dsimp only at HS
  have i1 : (a : Int) + 1 < (L.length : Int) := by omega
  have hdl := d.toNat_lt
  have g0 : decide ((0 : Int) ≤ (d.toNat : Int)) = true := by simp
  have w1 : IntKind.u8.wrap (d.toNat : Int) = (d.toNat : Int) := by rw [IntKind.wrap_u8]; omega
  have hcv := str_one_at w (d.toNat : Int) (by omega) (by omega)
  simp only [Int.toNat_natCast] at hcv
  rw [show UInt8.ofNat d.toNat = d from by simp] at hcv
  clear hs hx
  go_enter Tryd.func25, Tryd.ntmps25
  go_wp2_with (first
    | (go_at_call 35; refine (HS.out _).mono ?_; rintro e w1 ⟨rfl, rfl⟩))
  go_ret3
  exact retE_mk rfl ((Below.refl _ _).alloc (Nat.le_refl _) _)

set_option maxHeartbeats 400000 in
set_option maxRecDepth 100000 in
theorem piece_short (L : List UInt8) (a : Nat) (w : World) (hl : L.length ≤ 1000000) (h : a + 1 < L.length) (hc : L[a] = 92) (x : UInt8) (hx : L[a + 1] = x) (hs : Ltr.simp1 x = none) (he : L.length = a + 2) :
    Calls Tryd.prog 25 #[.string ⟨L.toArray⟩, .int .i64 (a : Int)] w (RetE (([], 0, 4)) w) := by
  have a0 : (0 : Int) ≤ (a : Int) := by omega
  have i0 : (a : Int) < (L.length : Int) := by omega
  have hb0 := lba_get L a (by omega) 92 hc
  clear hc
  have hb1 := lba_get L (a + 1) (by omega) x hx
  have HS : Hid (∀ W : World, Calls Tryd.prog 35 #[.int .u8 ((x).toNat : Int)] W fun e w' => e = .returned (.int .i64 (escI (Ltr.simp1 x))) ∧ W = w') := Lib.hid (fun W => escaped_any x W)
  rw [hs] at HS
  unfold escI at HS
  dsimp only at HS
  have i1 : (a : Int) + 1 < (L.length : Int) := by omega
  have i2 : (L.length : Int) ≤ (a : Int) + 2 := by omega
  clear hs hx
  go_enter Tryd.func25, Tryd.ntmps25
  go_wp2_with (first
    | (go_at_call 35; refine (HS.out _).mono ?_; rintro e w1 ⟨rfl, rfl⟩))
  go_ret3
  exact retE_mk rfl (Below.refl _ _)

set_option maxHeartbeats 400000 in
set_option maxRecDepth 100000 in
theorem piece_brace (L : List UInt8) (a : Nat) (w : World) (hl : L.length ≤ 1000000) (h : a + 2 < L.length) (hc : L[a] = 92) (x y : UInt8) (hx : L[a + 1] = x) (hy : L[a + 2] = y) (h117 : x = 117) (h123 : y = 123) :
    Calls Tryd.prog 25 #[.string ⟨L.toArray⟩, .int .i64 (a : Int)] w (RetE (Ltr.bracedF (a + 2) (L.drop (a + 3))) w) := by
  have a0 : (0 : Int) ≤ (a : Int) := by omega
  have i0 : (a : Int) < (L.length : Int) := by omega
  have hb0 := lba_get L a (by omega) 92 hc
  have hb1 := lba_get L (a + 1) (by omega) x hx
  have hb2 := lba_get L (a + 2) (by omega) y hy
  have i1 : (a : Int) + 1 < (L.length : Int) := by omega
  have i2 : (a : Int) + 2 < (L.length : Int) := by omega
  have s1 : ((x.toNat : Int) == 117) = true := by subst h117; rfl
  have HS : Hid (∀ W : World, Calls Tryd.prog 35 #[.int .u8 ((x).toNat : Int)] W fun e w' => e = .returned (.int .i64 (escI (Ltr.simp1 x))) ∧ W = w') := Lib.hid (fun W => escaped_any x W)
  rw [show Ltr.simp1 x = none from by subst h117; rfl] at HS
  unfold escI at HS
  dsimp only at HS
  have s2 : ((y.toNat : Int) == 123) = true := by subst h123; rfl
  have HB : Hid (Calls Tryd.prog 36 #[.string ⟨L.toArray⟩, .int .i64 ((a : Int) + 2)] w (RetE (Ltr.bracedF (a + 2) (L.drop (a + 3))) w)) := Lib.hid (by
    have := braced_any L (L.drop (a + 3)) (a + 2) w hl (by simp; omega) (fun k h => by rw [List.getElem_drop])
    rw [show ((a + 2 : Nat) : Int) = (a : Int) + 2 from by omega] at this
    exact this)
  clear hc hx hy h117 h123
  go_enter Tryd.func25, Tryd.ntmps25
  go_wp2_with (first
    | (go_at_call 35; refine (HS.out _).mono ?_; rintro e w1 ⟨rfl, rfl⟩)
    | (go_at_call 36; refine HB.out.mono ?_; rintro e w1 ⟨rfl, hb⟩))
  go_ret3
  exact retE_mk rfl hb

set_option maxHeartbeats 400000 in
set_option maxRecDepth 100000 in
theorem piece_nobrace (L : List UInt8) (a : Nat) (w : World) (hl : L.length ≤ 1000000) (h : a + 2 < L.length) (hc : L[a] = 92) (x y : UInt8) (hx : L[a + 1] = x) (hy : L[a + 2] = y) (h117 : x = 117) (h123 : y ≠ 123) :
    Calls Tryd.prog 25 #[.string ⟨L.toArray⟩, .int .i64 (a : Int)] w (RetE (([], 0, 4)) w) := by
  have a0 : (0 : Int) ≤ (a : Int) := by omega
  have i0 : (a : Int) < (L.length : Int) := by omega
  have hb0 := lba_get L a (by omega) 92 hc
  have hb1 := lba_get L (a + 1) (by omega) x hx
  have hb2 := lba_get L (a + 2) (by omega) y hy
  have i1 : (a : Int) + 1 < (L.length : Int) := by omega
  have i2 : (a : Int) + 2 < (L.length : Int) := by omega
  have s1 : ((x.toNat : Int) == 117) = true := by subst h117; rfl
  have HS : Hid (∀ W : World, Calls Tryd.prog 35 #[.int .u8 ((x).toNat : Int)] W fun e w' => e = .returned (.int .i64 (escI (Ltr.simp1 x))) ∧ W = w') := Lib.hid (fun W => escaped_any x W)
  rw [show Ltr.simp1 x = none from by subst h117; rfl] at HS
  unfold escI at HS
  dsimp only at HS
  have s2 := lcne y 123 (by omega) h123
  simp only [Int.cast_ofNat_Int] at s2
  have HX : Hid (∀ W : World, Calls Tryd.prog 37 #[.int .u8 (x.toNat : Int)] W fun e w' => e = .returned (.int .i64 (-1)) ∧ W = w') := Lib.hid (fun W => by have := rdigit_any x W; rw [show Ltr.dig x = -1 from by subst h117; rfl] at this; exact this)
  clear hc hx hy h117 h123
  go_enter Tryd.func25, Tryd.ntmps25
  go_wp2_with (first
    | (go_at_call 35; refine (HS.out _).mono ?_; rintro e w1 ⟨rfl, rfl⟩)
    | (go_at_call 37; (with_reducible refine (HX.out _).mono ?_); rintro e w1 ⟨rfl, rfl⟩))
  go_ret3
  exact retE_mk rfl (Below.refl _ _)

set_option maxHeartbeats 400000 in
set_option maxRecDepth 100000 in
theorem piece_nox (L : List UInt8) (a : Nat) (w : World) (hl : L.length ≤ 1000000) (h : a + 2 < L.length) (hc : L[a] = 92) (x y : UInt8) (hx : L[a + 1] = x) (hy : L[a + 2] = y) (hs : Ltr.simp1 x = none) (h117 : x ≠ 117) (hd : Ltr.dig x < 0) :
    Calls Tryd.prog 25 #[.string ⟨L.toArray⟩, .int .i64 (a : Int)] w (RetE (([], 0, 4)) w) := by
  have a0 : (0 : Int) ≤ (a : Int) := by omega
  have i0 : (a : Int) < (L.length : Int) := by omega
  have hb0 := lba_get L a (by omega) 92 hc
  clear hc
  have hb1 := lba_get L (a + 1) (by omega) x hx
  have hb2 := lba_get L (a + 2) (by omega) y hy
  have i2 : (a : Int) + 2 < (L.length : Int) := by omega
  have HS : Hid (∀ W : World, Calls Tryd.prog 35 #[.int .u8 ((x).toNat : Int)] W fun e w' => e = .returned (.int .i64 (escI (Ltr.simp1 x))) ∧ W = w') := Lib.hid (fun W => escaped_any x W)
  rw [hs] at HS
  unfold escI at HS
  dsimp only at HS
  have i1 : (a : Int) + 1 < (L.length : Int) := by omega
  have HX : Hid (∀ W : World, Calls Tryd.prog 37 #[.int .u8 (x.toNat : Int)] W fun e w' => e = .returned (.int .i64 (Ltr.dig x)) ∧ W = w') := Lib.hid (fun W => rdigit_any x W)
  have HY : Hid (∀ W : World, Calls Tryd.prog 37 #[.int .u8 (y.toNat : Int)] W fun e w' => e = .returned (.int .i64 (Ltr.dig y)) ∧ W = w') := Lib.hid (fun W => rdigit_any y W)
  have s1 := lcne x 117 (by omega) h117
  simp only [Int.cast_ofNat_Int] at s1
  have b1 := Ltr.dig_le x
  have b2 := Ltr.dig_le y
  generalize Ltr.dig x = p at *
  have d1 : decide (0 ≤ p) = false := by simpa using hd
  clear hs hx hy h117
  go_enter Tryd.func25, Tryd.ntmps25
  go_wp2_with fail
  refine (HS.out _).mono ?_
  rintro e w1 ⟨rfl, rfl⟩
  go_wp2_with fail
  refine (HX.out _).mono ?_
  rintro e w1 ⟨rfl, rfl⟩
  go_wp2
  go_ret3
  exact retE_mk rfl (Below.refl _ _)

set_option maxHeartbeats 400000 in
set_option maxRecDepth 100000 in
theorem piece_noy (L : List UInt8) (a : Nat) (w : World) (hl : L.length ≤ 1000000) (h : a + 2 < L.length) (hc : L[a] = 92) (x y : UInt8) (hx : L[a + 1] = x) (hy : L[a + 2] = y) (hs : Ltr.simp1 x = none) (h117 : x ≠ 117) (hd : ¬ Ltr.dig x < 0) (hd2 : Ltr.dig y < 0) :
    Calls Tryd.prog 25 #[.string ⟨L.toArray⟩, .int .i64 (a : Int)] w (RetE (([], 0, 4)) w) := by
  have a0 : (0 : Int) ≤ (a : Int) := by omega
  have i0 : (a : Int) < (L.length : Int) := by omega
  have hb0 := lba_get L a (by omega) 92 hc
  clear hc
  have hb1 := lba_get L (a + 1) (by omega) x hx
  have hb2 := lba_get L (a + 2) (by omega) y hy
  have i2 : (a : Int) + 2 < (L.length : Int) := by omega
  have HS : Hid (∀ W : World, Calls Tryd.prog 35 #[.int .u8 ((x).toNat : Int)] W fun e w' => e = .returned (.int .i64 (escI (Ltr.simp1 x))) ∧ W = w') := Lib.hid (fun W => escaped_any x W)
  rw [hs] at HS
  unfold escI at HS
  dsimp only at HS
  have i1 : (a : Int) + 1 < (L.length : Int) := by omega
  have HX : Hid (∀ W : World, Calls Tryd.prog 37 #[.int .u8 (x.toNat : Int)] W fun e w' => e = .returned (.int .i64 (Ltr.dig x)) ∧ W = w') := Lib.hid (fun W => rdigit_any x W)
  have HY : Hid (∀ W : World, Calls Tryd.prog 37 #[.int .u8 (y.toNat : Int)] W fun e w' => e = .returned (.int .i64 (Ltr.dig y)) ∧ W = w') := Lib.hid (fun W => rdigit_any y W)
  have s1 := lcne x 117 (by omega) h117
  simp only [Int.cast_ofNat_Int] at s1
  have b1 := Ltr.dig_le x
  have b2 := Ltr.dig_le y
  generalize Ltr.dig x = p at *
  generalize Ltr.dig y = q at *
  have d1 : decide (0 ≤ p) = true := by simpa using hd
  have d2 : decide (0 ≤ q) = false := by simpa using hd2
  clear hs hx hy h117
  go_enter Tryd.func25, Tryd.ntmps25
  go_wp2_with fail
  refine (HS.out _).mono ?_
  rintro e w1 ⟨rfl, rfl⟩
  go_wp2_with fail
  refine (HX.out _).mono ?_
  rintro e w1 ⟨rfl, rfl⟩
  go_wp2_with fail
  refine (HY.out _).mono ?_
  rintro e w1 ⟨rfl, rfl⟩
  go_wp2
  go_ret3
  exact retE_mk rfl (Below.refl _ _)

set_option maxHeartbeats 400000 in
set_option maxRecDepth 100000 in
theorem piece_hex (L : List UInt8) (a : Nat) (w : World) (hl : L.length ≤ 1000000) (h : a + 2 < L.length) (hc : L[a] = 92) (x y : UInt8) (hx : L[a + 1] = x) (hy : L[a + 2] = y) (hs : Ltr.simp1 x = none) (h117 : x ≠ 117) (X Y : Nat) (hX : Ltr.dig x = (X : Int)) (hY : Ltr.dig y = (Y : Int)) :
    Calls Tryd.prog 25 #[.string ⟨L.toArray⟩, .int .i64 (a : Int)] w (RetE ([UInt8.ofNat (16 * X + Y)], (a : Int) + 3, 0) w) := by
  have a0 : (0 : Int) ≤ (a : Int) := by omega
  have i0 : (a : Int) < (L.length : Int) := by omega
  have hb0 := lba_get L a (by omega) 92 hc
  clear hc
  have hb1 := lba_get L (a + 1) (by omega) x hx
  have hb2 := lba_get L (a + 2) (by omega) y hy
  have i2 : (a : Int) + 2 < (L.length : Int) := by omega
  have HS : Hid (∀ W : World, Calls Tryd.prog 35 #[.int .u8 ((x).toNat : Int)] W fun e w' => e = .returned (.int .i64 (escI (Ltr.simp1 x))) ∧ W = w') := Lib.hid (fun W => escaped_any x W)
  rw [hs] at HS
  unfold escI at HS
  dsimp only at HS
  have i1 : (a : Int) + 1 < (L.length : Int) := by omega
  have HX : Hid (∀ W : World, Calls Tryd.prog 37 #[.int .u8 (x.toNat : Int)] W fun e w' => e = .returned (.int .i64 (Ltr.dig x)) ∧ W = w') := Lib.hid (fun W => rdigit_any x W)
  have HY : Hid (∀ W : World, Calls Tryd.prog 37 #[.int .u8 (y.toNat : Int)] W fun e w' => e = .returned (.int .i64 (Ltr.dig y)) ∧ W = w') := Lib.hid (fun W => rdigit_any y W)
  have s1 := lcne x 117 (by omega) h117
  simp only [Int.cast_ofNat_Int] at s1
  have b1 := Ltr.dig_le x
  have b2 := Ltr.dig_le y
  rw [hX] at HX b1
  rw [hY] at HY b2
  have w1 : IntKind.i64.wrap (16 * (X : Int)) = 16 * (X : Int) := by rw [IntKind.wrap_i64]; omega
  have w2 : IntKind.i64.wrap (16 * (X : Int) + (Y : Int)) = 16 * (X : Int) + (Y : Int) := by rw [IntKind.wrap_i64]; omega
  have w3 : IntKind.u8.wrap (16 * (X : Int) + (Y : Int)) = 16 * (X : Int) + (Y : Int) := by rw [IntKind.wrap_u8]; omega
  have w4 : IntKind.i64.wrap ((a : Int) + 1) = (a : Int) + 1 := by rw [IntKind.wrap_i64]; omega
  have w5 : IntKind.i64.wrap ((a : Int) + 2) = (a : Int) + 2 := by rw [IntKind.wrap_i64]; omega
  have w6 : IntKind.i64.wrap ((a : Int) + 3) = (a : Int) + 3 := by rw [IntKind.wrap_i64]; omega
  have hcv : (convert 22 9 (.slice (some ⟨w.heap.size, 0, none⟩) 1 1)).run Tryd.prog (w.alloc (.cells #[.int .u8 (16 * (X : Int) + (Y : Int))] 5)).drew = .ok (.string ⟨#[UInt8.ofNat (16 * X + Y)]⟩) (w.alloc (.cells #[.int .u8 (16 * (X : Int) + (Y : Int))] 5)).drew := by
    have := str_one (W := (w.alloc (.cells #[.int .u8 (16 * (X : Int) + (Y : Int))] 5)).drew) (16 * (X : Int) + (Y : Int)) (by omega) (by omega) (heap_alloc_new w _)
    rw [show (16 * (X : Int) + (Y : Int)).toNat = 16 * X + Y from by omega] at this
    exact this
  have hc1 : ∀ h, (ByteArray.mk L.toArray)[((a : Int) + 1).toNat]'h = x := fun h => by
    have e : ((a : Int) + 1).toNat = a + 1 := by omega
    simp only [e]
    exact hb1
  have hc2 : ∀ h, (ByteArray.mk L.toArray)[((a : Int) + 2).toNat]'h = y := fun h => by
    have e : ((a : Int) + 2).toNat = a + 2 := by omega
    simp only [e]
    exact hb2
  have p1 : (0 : Int) ≤ (a : Int) + 1 := by omega
  have p2 : (0 : Int) ≤ (a : Int) + 2 := by omega
  clear hs hx hy h117 hX hY
  go_enter Tryd.func25, Tryd.ntmps25
  go_wp2_with fail
  refine (HS.out _).mono ?_
  rintro e w1 ⟨rfl, rfl⟩
  go_wp2_with fail
  refine (HX.out _).mono ?_
  rintro e w1 ⟨rfl, rfl⟩
  go_wp2_with fail
  refine (HY.out _).mono ?_
  rintro e w1 ⟨rfl, rfl⟩
  go_wp2_with fail
  refine wp_region_held_drew (S := fun _ => True) (by kernel_rfl) ?_ (fun hHeld0 => ?_)
  · first | assumption | go_keep
  refine wpAnyH_take (i := 0) (oi := { dst := some 100, op := Go.Op.move (Go.Operand.tmp 0), type := 9, pos := "ref.go:86", after := #[], guard := none }) (v := ?v_1_0) rfl (by kernel_rfl) (by kernel_rfl) (by kernel_rfl) (fun _ _ _ h => h) (Or.inl ⟨by rfl, ?hy_1_0⟩) (by assumption) ?rest_1_0
  case hy_1_0 => (intro w hSw; (try dsimp only at hSw); go_simp; (try (with_reducible rfl)))
  (try simp only [Act.put, List.setIfInBounds_toArray, List.set_cons_succ, List.set_cons_zero])
  refine wpAnyH_take (i := 1) (oi := { dst := some 101, op := Go.Op.move (Go.Operand.tmp 1), type := 3, pos := "ref.go:86", after := #[], guard := none }) (v := ?v_1_1) rfl (by kernel_rfl) (by kernel_rfl) (by kernel_rfl) (fun _ _ _ h => h) (Or.inl ⟨by rfl, ?hy_1_1⟩) (by assumption) ?rest_1_1
  case hy_1_1 => (intro w hSw; (try dsimp only at hSw); go_simp; (try (with_reducible rfl)))
  (try simp only [Act.put, List.setIfInBounds_toArray, List.set_cons_succ, List.set_cons_zero])
  refine wpAnyH_take (i := 2) (oi := { dst := some 102, op := Go.Op.binOp Go.BinOp.add 3 (Go.Operand.tmp 101) (Go.Operand.const (Go.Value.int Go.IntKind.i64 1)) 3, type := 3, pos := "ref.go:86", after := #[{ on := 1, ground := Go.Ground.data }], guard := none }) (v := ?v_1_2) rfl (by kernel_rfl) (by kernel_rfl) (by kernel_rfl) (fun _ _ _ h => h) (Or.inl ⟨by rfl, ?hy_1_2⟩) (by assumption) ?rest_1_2
  case hy_1_2 => (intro w hSw; (try dsimp only at hSw); go_simp; (try (with_reducible rfl)))
  (try simp only [Act.put, List.setIfInBounds_toArray, List.set_cons_succ, List.set_cons_zero])
  refine wpAnyH_take (i := 3) (oi := { dst := some 103, op := Go.Op.index 9 (Go.Operand.tmp 100) (Go.Operand.tmp 102), type := 5, pos := "ref.go:86", after := #[{ on := 0, ground := Go.Ground.data }, { on := 2, ground := Go.Ground.data }], guard := none }) (v := ?v_1_3) rfl (by kernel_rfl) (by kernel_rfl) (by kernel_rfl) (fun _ _ _ h => h) (Or.inl ⟨by rfl, ?hy_1_3⟩) (by assumption) ?rest_1_3
  case hy_1_3 => (intro w hSw; (try dsimp only at hSw); go_simp; (try (with_reducible rfl)))
  (try simp only [Act.put, List.setIfInBounds_toArray, List.set_cons_succ, List.set_cons_zero])
  refine wpAnyH_take (i := 6) (oi := { dst := some 106, op := Go.Op.move (Go.Operand.tmp 0), type := 9, pos := "ref.go:86", after := #[], guard := none }) (v := ?v_1_6) rfl (by kernel_rfl) (by kernel_rfl) (by kernel_rfl) (fun _ _ _ h => h) (Or.inl ⟨by rfl, ?hy_1_6⟩) (by assumption) ?rest_1_6
  case hy_1_6 => (intro w hSw; (try dsimp only at hSw); go_simp; (try (with_reducible rfl)))
  (try simp only [Act.put, List.setIfInBounds_toArray, List.set_cons_succ, List.set_cons_zero])
  refine wpAnyH_take (i := 7) (oi := { dst := some 107, op := Go.Op.move (Go.Operand.tmp 1), type := 3, pos := "ref.go:86", after := #[], guard := none }) (v := ?v_1_7) rfl (by kernel_rfl) (by kernel_rfl) (by kernel_rfl) (fun _ _ _ h => h) (Or.inl ⟨by rfl, ?hy_1_7⟩) (by assumption) ?rest_1_7
  case hy_1_7 => (intro w hSw; (try dsimp only at hSw); go_simp; (try (with_reducible rfl)))
  (try simp only [Act.put, List.setIfInBounds_toArray, List.set_cons_succ, List.set_cons_zero])
  refine wpAnyH_take (i := 8) (oi := { dst := some 108, op := Go.Op.binOp Go.BinOp.add 3 (Go.Operand.tmp 107) (Go.Operand.const (Go.Value.int Go.IntKind.i64 2)) 3, type := 3, pos := "ref.go:86", after := #[{ on := 7, ground := Go.Ground.data }], guard := none }) (v := ?v_1_8) rfl (by kernel_rfl) (by kernel_rfl) (by kernel_rfl) (fun _ _ _ h => h) (Or.inl ⟨by rfl, ?hy_1_8⟩) (by assumption) ?rest_1_8
  case hy_1_8 => (intro w hSw; (try dsimp only at hSw); go_simp; (try (with_reducible rfl)))
  (try simp only [Act.put, List.setIfInBounds_toArray, List.set_cons_succ, List.set_cons_zero])
  refine wpAnyH_take (i := 9) (oi := { dst := some 109, op := Go.Op.index 9 (Go.Operand.tmp 106) (Go.Operand.tmp 108), type := 5, pos := "ref.go:86", after := #[{ on := 6, ground := Go.Ground.data }, { on := 8, ground := Go.Ground.data }], guard := none }) (v := ?v_1_9) rfl (by kernel_rfl) (by kernel_rfl) (by kernel_rfl) (fun _ _ _ h => h) (Or.inl ⟨by rfl, ?hy_1_9⟩) (by assumption) ?rest_1_9
  case hy_1_9 => (intro w hSw; (try dsimp only at hSw); go_simp; (try (with_reducible rfl)))
  (try simp only [Act.put, List.setIfInBounds_toArray, List.set_cons_succ, List.set_cons_zero])
  refine wpAnyH_take (i := 15) (oi := { dst := some 115, op := Go.Op.move (Go.Operand.tmp 1), type := 3, pos := "ref.go:86", after := #[{ on := 17, ground := Go.Ground.gcOnly Go.Departure.lateStores }], guard := none }) (v := ?v_1_15) rfl (by kernel_rfl) (by kernel_rfl) (by kernel_rfl) (fun _ _ _ h => h) (Or.inl ⟨by rfl, ?hy_1_15⟩) (by assumption) ?rest_1_15
  case hy_1_15 => (intro w hSw; (try dsimp only at hSw); go_simp; (try (with_reducible rfl)))
  (try simp only [Act.put, List.setIfInBounds_toArray, List.set_cons_succ, List.set_cons_zero])
  refine wpAnyH_take (i := 16) (oi := { dst := some 116, op := Go.Op.binOp Go.BinOp.add 3 (Go.Operand.tmp 115) (Go.Operand.const (Go.Value.int Go.IntKind.i64 3)) 3, type := 3, pos := "ref.go:86", after := #[{ on := 15, ground := Go.Ground.data }, { on := 17, ground := Go.Ground.gcOnly Go.Departure.lateStores }], guard := none }) (v := ?v_1_16) rfl (by kernel_rfl) (by kernel_rfl) (by kernel_rfl) (fun _ _ _ h => h) (Or.inl ⟨by rfl, ?hy_1_16⟩) (by assumption) ?rest_1_16
  case hy_1_16 => (intro w hSw; (try dsimp only at hSw); go_simp; (try (with_reducible rfl)))
  (try simp only [Act.put, List.setIfInBounds_toArray, List.set_cons_succ, List.set_cons_zero])
  refine wpAnyH_ready (rs := [4]) (by kernel_rfl) (by simp) ?_
  refine AllReadyH.cons (o := { dst := some 104, op := Go.Op.call { callee := Go.Callee.value (Go.Operand.func 37), args := #[Go.Operand.tmp 103], argTypes := #[5] }, type := 3, pos := "ref.go:86", after := #[{ on := 3, ground := Go.Ground.data }], guard := none }) rfl (fun K hK => ?_) AllReadyH.nil
  go_simp
  (go_at_call 37; (with_reducible refine (HX.out _).mono ?_); rintro e w1 ⟨rfl, rfl⟩)
  (try dsimp only)
  refine hK.out _ _ ?_ (fun hHeld1 => ?_)
  · trivial
  clear hK K hHeld0
  (try simp only [Act.put, List.setIfInBounds_toArray, List.set_cons_succ, List.set_cons_zero])
  refine wpAnyH_take (i := 5) (oi := { dst := some 105, op := Go.Op.binOp Go.BinOp.mul 3 (Go.Operand.const (Go.Value.int Go.IntKind.i64 16)) (Go.Operand.tmp 104) 3, type := 3, pos := "ref.go:86", after := #[{ on := 4, ground := Go.Ground.data }], guard := none }) (v := ?v_1_5) rfl (by kernel_rfl) (by kernel_rfl) (by kernel_rfl) (fun _ _ _ h => h) (Or.inl ⟨by rfl, ?hy_1_5⟩) (by assumption) ?rest_1_5
  case hy_1_5 => (intro w hSw; (try dsimp only at hSw); go_simp; (try (with_reducible rfl)))
  (try simp only [Act.put, List.setIfInBounds_toArray, List.set_cons_succ, List.set_cons_zero])
  refine wpAnyH_ready (rs := [10]) (by kernel_rfl) (by simp) ?_
  refine AllReadyH.cons (o := { dst := some 110, op := Go.Op.call { callee := Go.Callee.value (Go.Operand.func 37), args := #[Go.Operand.tmp 109], argTypes := #[5] }, type := 3, pos := "ref.go:86", after := #[{ on := 9, ground := Go.Ground.data }, { on := 4, ground := Go.Ground.chain }], guard := none }) rfl (fun K hK => ?_) AllReadyH.nil
  go_simp
  (go_at_call 37; (with_reducible refine (HY.out _).mono ?_); rintro e w1 ⟨rfl, rfl⟩)
  (try dsimp only)
  refine hK.out _ _ ?_ (fun hHeld2 => ?_)
  · trivial
  clear hK K hHeld1
  (try simp only [Act.put, List.setIfInBounds_toArray, List.set_cons_succ, List.set_cons_zero])
  refine wpAnyH_take (i := 11) (oi := { dst := some 111, op := Go.Op.binOp Go.BinOp.add 3 (Go.Operand.tmp 105) (Go.Operand.tmp 110) 3, type := 3, pos := "ref.go:86", after := #[{ on := 5, ground := Go.Ground.data }, { on := 10, ground := Go.Ground.data }], guard := none }) (v := ?v_1_11) rfl (by kernel_rfl) (by kernel_rfl) (by kernel_rfl) (fun _ _ _ h => h) (Or.inl ⟨by rfl, ?hy_1_11⟩) (by assumption) ?rest_1_11
  case hy_1_11 => (intro w hSw; (try dsimp only at hSw); go_simp; (try (with_reducible rfl)))
  (try simp only [Act.put, List.setIfInBounds_toArray, List.set_cons_succ, List.set_cons_zero])
  refine wpAnyH_take (i := 12) (oi := { dst := some 112, op := Go.Op.convert 3 5 (Go.Operand.tmp 111), type := 5, pos := "ref.go:86", after := #[{ on := 11, ground := Go.Ground.data }], guard := none }) (v := ?v_1_12) rfl (by kernel_rfl) (by kernel_rfl) (by kernel_rfl) (fun _ _ _ h => h) (Or.inl ⟨by rfl, ?hy_1_12⟩) (by assumption) ?rest_1_12
  case hy_1_12 => (intro w hSw; (try dsimp only at hSw); go_simp; (try (with_reducible rfl)))
  (try simp only [Act.put, List.setIfInBounds_toArray, List.set_cons_succ, List.set_cons_zero])
  refine wpAnyH_ready (rs := [13]) (by kernel_rfl) (by simp) ?_
  refine AllReadyH.cons (o := { dst := some 113, op := Go.Op.buildSlice 22 1 #[(0, Go.Operand.tmp 112)], type := 22, pos := "ref.go:86", after := #[{ on := 12, ground := Go.Ground.data }], guard := none }) rfl (fun K hK => ?_) AllReadyH.nil
  go_simp
  skip
  (try dsimp only)
  refine hK.out _ _ ?_ (fun hHeld3 => ?_)
  · trivial
  clear hK K hHeld2
  (try simp only [Act.put, List.setIfInBounds_toArray, List.set_cons_succ, List.set_cons_zero])
  refine wpAnyH_ready (rs := [14]) (by kernel_rfl) (by simp) ?_
  refine AllReadyH.cons (o := { dst := some 114, op := Go.Op.convert 22 9 (Go.Operand.tmp 113), type := 9, pos := "ref.go:86", after := #[{ on := 13, ground := Go.Ground.data }], guard := none }) rfl (fun K hK => ?_) AllReadyH.nil
  go_simp
  skip
  (try dsimp only)
  refine hK.out _ _ ?_ (fun hHeld4 => ?_)
  · trivial
  clear hK K hHeld3
  (try simp only [Act.put, List.setIfInBounds_toArray, List.set_cons_succ, List.set_cons_zero])
  refine wpAnyH_take (i := 17) (oi := { dst := some 4, op := Go.Op.assign (Go.Operand.tmp 114), type := 9, pos := "ref.go:86", after := #[{ on := 14, ground := Go.Ground.data }, { on := 10, ground := Go.Ground.chain }, { on := 0, ground := Go.Ground.phase }, { on := 1, ground := Go.Ground.phase }, { on := 2, ground := Go.Ground.phase }, { on := 3, ground := Go.Ground.phase }, { on := 4, ground := Go.Ground.phase }, { on := 5, ground := Go.Ground.phase }, { on := 6, ground := Go.Ground.phase }, { on := 7, ground := Go.Ground.phase }, { on := 8, ground := Go.Ground.phase }, { on := 9, ground := Go.Ground.phase }, { on := 10, ground := Go.Ground.phase }, { on := 11, ground := Go.Ground.phase }, { on := 12, ground := Go.Ground.phase }, { on := 13, ground := Go.Ground.phase }, { on := 14, ground := Go.Ground.phase }, { on := 15, ground := Go.Ground.textOnly Go.Departure.lateStores }, { on := 16, ground := Go.Ground.textOnly Go.Departure.lateStores }], guard := none }) (v := ?v_1_17) rfl (by kernel_rfl) (by kernel_rfl) (by kernel_rfl) (fun _ _ _ h => h) (Or.inl ⟨by rfl, ?hy_1_17⟩) (by assumption) ?rest_1_17
  case hy_1_17 => (intro w hSw; (try dsimp only at hSw); go_simp; (try (with_reducible rfl)))
  (try simp only [Act.put, List.setIfInBounds_toArray, List.set_cons_succ, List.set_cons_zero])
  refine wpAnyH_take (i := 18) (oi := { dst := some 5, op := Go.Op.assign (Go.Operand.tmp 116), type := 3, pos := "ref.go:86", after := #[{ on := 16, ground := Go.Ground.data }, { on := 17, ground := Go.Ground.chain }, { on := 0, ground := Go.Ground.phase }, { on := 1, ground := Go.Ground.phase }, { on := 2, ground := Go.Ground.phase }, { on := 3, ground := Go.Ground.phase }, { on := 4, ground := Go.Ground.phase }, { on := 5, ground := Go.Ground.phase }, { on := 6, ground := Go.Ground.phase }, { on := 7, ground := Go.Ground.phase }, { on := 8, ground := Go.Ground.phase }, { on := 9, ground := Go.Ground.phase }, { on := 10, ground := Go.Ground.phase }, { on := 11, ground := Go.Ground.phase }, { on := 12, ground := Go.Ground.phase }, { on := 13, ground := Go.Ground.phase }, { on := 14, ground := Go.Ground.phase }, { on := 15, ground := Go.Ground.phase }, { on := 16, ground := Go.Ground.phase }, { on := 17, ground := Go.Ground.phase }], guard := none }) (v := ?v_1_18) rfl (by kernel_rfl) (by kernel_rfl) (by kernel_rfl) (fun _ _ _ h => h) (Or.inl ⟨by rfl, ?hy_1_18⟩) (by assumption) ?rest_1_18
  case hy_1_18 => (intro w hSw; (try dsimp only at hSw); go_simp; (try (with_reducible rfl)))
  (try simp only [Act.put, List.setIfInBounds_toArray, List.set_cons_succ, List.set_cons_zero])
  refine wpAnyH_take (i := 19) (oi := { dst := some 6, op := Go.Op.assign (Go.Operand.const (Go.Value.int Go.IntKind.i64 0)), type := 24, pos := "ref.go:86", after := #[{ on := 18, ground := Go.Ground.chain }, { on := 0, ground := Go.Ground.phase }, { on := 1, ground := Go.Ground.phase }, { on := 2, ground := Go.Ground.phase }, { on := 3, ground := Go.Ground.phase }, { on := 4, ground := Go.Ground.phase }, { on := 5, ground := Go.Ground.phase }, { on := 6, ground := Go.Ground.phase }, { on := 7, ground := Go.Ground.phase }, { on := 8, ground := Go.Ground.phase }, { on := 9, ground := Go.Ground.phase }, { on := 10, ground := Go.Ground.phase }, { on := 11, ground := Go.Ground.phase }, { on := 12, ground := Go.Ground.phase }, { on := 13, ground := Go.Ground.phase }, { on := 14, ground := Go.Ground.phase }, { on := 15, ground := Go.Ground.phase }, { on := 16, ground := Go.Ground.phase }, { on := 17, ground := Go.Ground.phase }, { on := 18, ground := Go.Ground.phase }], guard := none }) (v := ?v_1_19) rfl (by kernel_rfl) (by kernel_rfl) (by kernel_rfl) (fun _ _ _ h => h) (Or.inl ⟨by rfl, ?hy_1_19⟩) (by assumption) ?rest_1_19
  case hy_1_19 => (intro w hSw; (try dsimp only at hSw); go_simp; (try (with_reducible rfl)))
  (try simp only [Act.put, List.setIfInBounds_toArray, List.set_cons_succ, List.set_cons_zero])
  refine wpAnyH_done (by kernel_rfl) ?_ _
  go_wp2
  go_ret3
  exact retE_mk (by simp) ((Below.refl _ _).alloc (Nat.le_refl _) _).drew

theorem piece_any (L : List UInt8) (a : Nat) (w : World) (hl : L.length ≤ 1000000) (h : a < L.length) :
    Calls Tryd.prog 25 #[.string ⟨L.toArray⟩, .int .i64 (a : Int)] w (RetE (Ltr.pieceF a L[a] (L.drop (a + 1))) w) := by
  by_cases h92 : L[a] = 92
  · rw [h92]
    by_cases h1 : a + 1 < L.length
    · have e1 : L.drop (a + 1) = L[a + 1] :: L.drop (a + 2) := List.drop_eq_getElem_cons h1
      obtain ⟨x, hx⟩ : ∃ x, L[a + 1] = x := ⟨_, rfl⟩
      rw [e1, hx]
      have hE : Ltr.esc (x :: L.drop (a + 2)) = match Ltr.simp1 x with
        | some d => ([d], 1, 0)
        | none => if x = 117 then Ltr.pointS (L.drop (a + 2)) else Ltr.escT x (L.drop (a + 2)) := rfl
      cases hs : Ltr.simp1 x with
      | some d =>
        rw [hs] at hE
        rw [Ltr.piece_esc a _ hE, if_pos rfl, show (a : Int) + 1 + 1 = (a : Int) + 2 from by omega]
        exact piece_simple L a w hl h1 h92 x hx d hs
      | none =>
        rw [hs] at hE
        dsimp only at hE
        by_cases h2 : a + 2 < L.length
        · have e2 : L.drop (a + 2) = L[a + 2] :: L.drop (a + 3) := List.drop_eq_getElem_cons h2
          obtain ⟨y, hy⟩ : ∃ y, L[a + 2] = y := ⟨_, rfl⟩
          rw [e2, hy] at hE ⊢
          by_cases h117 : x = 117
          · rw [if_pos h117] at hE
            subst h117
            by_cases h123 : y = 123
            · subst h123
              have := piece_brace L a w hl h2 h92 _ _ hx hy rfl rfl
              have hb : Ltr.pieceF a 92 (117 :: 123 :: L.drop (a + 3)) = Ltr.bracedF (a + 2) (L.drop (a + 3)) := by
                have hp : Ltr.pointS (123 :: L.drop (a + 3)) = Ltr.pointF (L.drop (a + 3)) := rfl
                rw [hp] at hE
                obtain ⟨⟨p, n, e⟩, hq⟩ : ∃ q, Ltr.pointF (L.drop (a + 3)) = q := ⟨_, rfl⟩
                rw [hq] at hE
                rw [Ltr.piece_esc a _ hE]
                unfold Ltr.bracedF
                rw [hq]
                dsimp only
                by_cases he : e = 0
                · rw [if_pos he, if_pos he]; congr 2; omega
                · rw [if_neg he, if_neg he]
              rw [hb]
              exact this
            · have hp : Ltr.pointS (y :: L.drop (a + 3)) = ([], 0, 4) := by
                unfold Ltr.pointS
                split
                · rename_i heq; injection heq with h1 _; exact absurd h1 h123
                · rfl
              rw [hp] at hE
              rw [Ltr.piece_esc a _ hE, if_neg (by decide)]
              exact piece_nobrace L a w hl h2 h92 _ _ hx hy rfl h123
          · rw [if_neg h117] at hE
            have hT : Ltr.escT x (y :: L.drop (a + 3)) = if Ltr.dig x < 0 ∨ Ltr.dig y < 0 then ([], 0, 4) else ([UInt8.ofNat (16 * (Ltr.dig x).toNat + (Ltr.dig y).toNat)], 2, 0) := rfl
            rw [hT] at hE
            by_cases hdx : Ltr.dig x < 0
            · rw [if_pos (.inl hdx)] at hE
              rw [Ltr.piece_esc a _ hE, if_neg (by decide)]
              exact piece_nox L a w hl h2 h92 x y hx hy hs h117 hdx
            · by_cases hdy : Ltr.dig y < 0
              · rw [if_pos (.inr hdy)] at hE
                rw [Ltr.piece_esc a _ hE, if_neg (by decide)]
                exact piece_noy L a w hl h2 h92 x y hx hy hs h117 hdx hdy
              · rw [if_neg (by omega)] at hE
                rw [Ltr.piece_esc a _ hE, if_pos rfl, show (a : Int) + 1 + 2 = (a : Int) + 3 from by omega]
                exact piece_hex L a w hl h2 h92 x y hx hy hs h117 _ _ (by omega) (by omega)
        · have e2 : L.drop (a + 2) = [] := List.drop_eq_nil_of_le (by omega)
          rw [e2] at hE ⊢
          have hE2 : Ltr.esc [x] = ([], 0, 4) := by
            rw [hE]
            split <;> rfl
          rw [Ltr.piece_esc a _ hE2, if_neg (by decide)]
          exact piece_short L a w hl h1 h92 x hx hs (by omega)
    · have e1 : L.drop (a + 1) = [] := List.drop_eq_nil_of_le (by omega)
      rw [e1, Ltr.piece_esc a [] (l := []) (n := 0) (e := 4) rfl, if_neg (by decide)]
      exact piece_end L a w hl h h92 (by omega)
  · exact piece_low L a w hl h _ rfl h92
end Go.Proofs.YtpmalmednkknpaaDoor
