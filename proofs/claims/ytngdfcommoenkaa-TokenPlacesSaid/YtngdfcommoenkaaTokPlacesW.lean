/-
  The walk of the law TokenPlaces.
-/
import Derived.Test.YtngdfcommoenkaaTokAlive
import Derived.Test.YtngdfcommoenkaaTokBuf
import Derived.Test.YtngdfcommoenkaaTokBackW
set_option linter.unusedVariables false
namespace Go.Proofs.Ytngdfcommoenkaa
open Go.RowKit

set_option maxHeartbeats 2000000 in
set_option maxRecDepth 100000 in
theorem places_long (l : List UInt8) (w : World) (h1 : 2000 < l.length) :
    Calls Try.prog 5 #[.string ⟨l.toArray⟩] w fun e w' => e = .returned (.bool true) ∧ Below w.heap.size w w' := by
  go_enter Try.func5, Try.ntmps5
  go_wp2_with (go_at_call 8; refine (alive_any _).mono ?_; rintro e w1 ⟨rfl, hb⟩)
  go_ret
  exact ⟨rfl, hb⟩

set_option maxHeartbeats 2000000 in
set_option maxRecDepth 100000 in
theorem places_err (l : List UInt8) (w : World) (hl : l.length ≤ 2000) (T : List Tok.Tk) (a : Nat) (er : Int) (hx : Tok.lexF l = (T, a, er)) (her : (er != 0) = true) (ha : a ≤ l.length) :
    Calls Try.prog 5 #[.string ⟨l.toArray⟩] w fun e w' => e = .returned (.bool true) ∧ Below w.heap.size w w' := by
  have g1 : decide ((2000 : Int) < (l.length : Int)) = false := by simp; omega
  have g2 : decide ((0 : Int) ≤ (a : Int)) = true := by simp
  have g3 : decide ((a : Int) ≤ (l.length : Int)) = true := by simp; omega
  have g4 : decide (a ≤ l.length) = true := by simp; omega
  have HX := Lib.hid hx
  clear hx
  go_enter Try.func5, Try.ntmps5
  go_wp2_with fail
  refine (lex_any l _ (by omega)).mono ?_
  rw [HX.out]
  rintro e w1 ⟨A1, c1, rfl, hown1, hb1⟩
  clear hown1
  go_wp2_with (go_at_call 8; refine (alive_any _).mono ?_; rintro e w2 ⟨rfl, hb2⟩)
  go_ret
  exact ⟨rfl, hb1.trans (hb2.mono hb1.size)⟩

theorem fill_set (k n : Nat) (h : k < n) : (List.replicate k (32 : UInt8) ++ List.replicate (n - k) 0).set k 32 = List.replicate (k + 1) 32 ++ List.replicate (n - (k + 1)) 0 := by
  rw [List.set_append_right _ _ (by simp), List.length_replicate, Nat.sub_self, show n - k = (n - (k + 1)) + 1 from by omega, List.replicate_succ, List.set_cons_zero, List.replicate_succ']
  simp
theorem extract_take (l : List UInt8) (p N : Nat) : (ByteArray.mk l.toArray).extract p (p + N) = ⟨((l.drop p).take N).toArray⟩ := by
  apply ByteArray.ext
  simp [ByteArray.data_extract]
theorem foldl_take (body : List Tok.Tk) (B : List UInt8) (k : Nat) (h : k < body.length) : (body.take (k + 1)).foldl Tok.put B = Tok.put ((body.take k).foldl Tok.put B) body[k] := by
  rw [List.take_succ_eq_append_getElem h, List.foldl_append]; rfl
theorem foldl_len (l : List UInt8) (body : List Tok.Tk) (h : Tok.Ch l 0 false body) (k : Nat) (hk : k ≤ body.length) : ((body.take k).foldl Tok.put (List.replicate l.length 32)).length = l.length := by
  induction k with
  | zero => simp
  | succ k ih =>
    have hk' : k < body.length := by omega
    rw [foldl_take body _ k hk', Tok.put_len _ _ (by rw [ih (by omega)]; exact (Tok.ch_get body 0 false k hk' h).2.2.1), ih (by omega)]

set_option maxHeartbeats 4000000 in
set_option maxRecDepth 100000 in
theorem places_good (l : List UInt8) (w : World) (hl : l.length ≤ 2000) (L body : List Tok.Tk) (a : Nat) (hx : Tok.lexF l = (L, a, 0)) (hL : L = body ++ [⟨4, l.length, []⟩]) (hch : Tok.Ch l 0 false body)
    (hlex : Tok.lexF (body.foldl Tok.put (List.replicate l.length 32)) = (L, 0, 0)) (hblen : (body.foldl Tok.put (List.replicate l.length 32)).length = l.length) :
    Calls Try.prog 5 #[.string ⟨l.toArray⟩] w fun e w' => e = .returned (.bool true) ∧ Below w.heap.size w w' := by
  have g1 : decide ((2000 : Int) < (l.length : Int)) = false := by simp; omega
  have hLn := lexF_len3 l (by omega)
  rw [hx] at hLn
  dsimp only at hLn
  have hLl : L.length = body.length + 1 := by rw [hL]; simp
  have hlast : ∃ h : body.length < L.length, L[body.length] = ⟨4, l.length, []⟩ := ⟨by omega, by simp [hL]⟩
  have hget : ∀ (k : Nat) (hk : k < body.length), ∃ h : k < L.length, L[k] = body[k] := fun k hk => ⟨by omega, by simp [hL, hk]⟩
  obtain ⟨m, hm⟩ : ∃ m, body.length = m := ⟨_, rfl⟩
  have hLm : L.length = m + 1 := by omega
  have hwm : IntKind.i64.wrap ((L.length : Int) - 1) = (m : Int) := by rw [IntKind.wrap_i64]; omega
  have q0 : ((L.length : Int) == 0) = false := by simpa using (by omega : ¬ (L.length : Int) = 0)
  have q1 : (0 : Int) ≤ (m : Int) := Int.natCast_nonneg _
  have q2 : (m : Int) < (L.length : Int) := by omega
  have hmk := buf_make_run l.length (by omega)
  have HX := Lib.hid hx
  have HL := Lib.hid hL
  have HLM := Lib.hid hLm
  have HLX := Lib.hid hlex
  have HCH := Lib.hid hch
  have HM := Lib.hid hm
  have HG := Lib.hid hget
  have HBL := Lib.hid hblen
  obtain ⟨hll, hlv⟩ := hlast
  clear hx hL hlex hch hblen hLl hLm hget
  go_enter Try.func5, Try.ntmps5
  go_wp2_with fail
  refine (lex_any l _ (by omega)).mono ?_
  rw [HX.out]
  rintro e w1 ⟨A1, c1, rfl, hown1, hb1⟩
  dsimp only at hown1 ⊢
  obtain ⟨gL, rfl, hgw, hgL, k0, k1, k2⟩ := own_tok hown1 body.length hll
  rw [hlv] at k0 k1
  rw [hm] at k0 k1
  dsimp only at k0 k1
  clear k2 hlv
  go_wp2_with fail
  have hB0 := buf_new w1 (List.replicate l.length 0)
  have hb0 : Below w1.heap.size w1 (w1.alloc (.cells (rb (List.replicate l.length 0)).toArray 5)) := (Below.refl _ _).alloc (Nat.le_refl _) _
  generalize w1.alloc (.cells (rb (List.replicate l.length 0)).toArray 5) = w2 at hB0 hb0 ⊢
  obtain ⟨g, hg⟩ : ∃ g, w1.heap.size = g := ⟨_, rfl⟩
  rw [hg] at hB0 hb0 hgL ⊢
  have HGH := Lib.hid hg
  clear hmk k0 k1 hwm hg
  go_loopw [7] (fun i wr => ∃ k : Nat, k ≤ l.length ∧ i = .int .i64 k ∧ BufAt wr g (List.replicate k 32 ++ List.replicate (l.length - k) 0) ∧ Below g w1 wr) (fun i _ => l.length - (intOf i).toNat)
  case atStart => exact ⟨0, by omega, rfl, by simpa using hB0, hb0⟩
  case round =>
    obtain ⟨k, hk, rfl, hB, hb⟩ := hrel
    by_cases hkl : k < l.length
    · have i0 : (0 : Int) ≤ (k : Int) := Int.natCast_nonneg _
      have i1 : (k : Int) < (l.length : Int) := by omega
      have hc := buf_cell hB k (by simp; omega)
      have hf := buf_free hB k
      generalize (List.replicate k (32 : UInt8) ++ List.replicate (l.length - k) 0)[k]'(by simp; omega) = x at hc
      go_wp2_with fail
      go_roundw
      case rel => exact ⟨k + 1, by omega, by go_num, by have := buf_set hB k 32; rw [fill_set k l.length hkl] at this; exact this, hb.setCell (p := ⟨g, k, none⟩) (Nat.le_refl _) _⟩
      case measure => simp [intOf]; omega
    · obtain rfl : k = l.length := by omega
      have hB' : BufAt wr g (List.replicate l.length 32) := by simpa using hB
      clear hB hB0 hb0
      have hbo := hb
      clear hb
      go_wp2_with fail
      go_loopw [8, 9] (fun en i W => ∃ k : Nat, k ≤ m ∧ i = .int .i64 k ∧ en = .int .i64 (Tok.endAt 0 body k : Nat) ∧ BufAt W g ((body.take k).foldl Tok.put (List.replicate l.length 32)) ∧ Below g w1 W) (fun _ i _ => m - (intOf i).toNat)
      case atStart => exact ⟨0, by omega, rfl, rfl, by simpa using hB', hbo⟩
      case round =>
        obtain ⟨k, hk, rfl, rfl, hB, hb⟩ := hrel
        clear hB' hbo
        have hwm : IntKind.i64.wrap ((L.length : Int) - 1) = (m : Int) := by have := HLM.out; rw [IntKind.wrap_i64]; omega
        by_cases hkm : k < m
        · have hkb : k < body.length := by rw [HM.out]; exact hkm
          obtain ⟨hkL, hLk⟩ := HG.out k hkb
          obtain ⟨gd, he, hp, ht⟩ := Tok.ch_get body 0 false k hkb HCH.out
          obtain ⟨gL2, e2, _, _, c0, c1, c2⟩ := own_tok hown1 k hkL
          injection e2 with e2
          injection e2 with e2
          subst e2
          rw [hLk] at c0 c1 c2
          have d0 := (hb.cell (p := ⟨gL, k * 3, none⟩) hgL).trans c0
          have d1 := (hb.cell (p := ⟨gL, k * 3 + 1, none⟩) hgL).trans c1
          have d2 := (hb.cell (p := ⟨gL, k * 3 + 2, none⟩) hgL).trans c2
          have hgk := Tok.good_kind gd
          have hps := Tok.ttext_pos gd
          have C1 : Hid (∀ W : World, Calls Try.prog 14 #[.agg #[.int .i64 (body[k].kind : Int), .int .i64 (body[k].pos : Int), .string ⟨body[k].text.toArray⟩]] W fun e w' => e = .returned (.int .i64 ((Tok.ttext body[k]).length : Int)) ∧ Below W.heap.size W w') := fun W => long_any body[k] _ gd rfl (by omega) W
          have hnext : Hid (Tok.endAt 0 body (k + 1) = body[k].pos + (Tok.ttext body[k]).length) := Lib.hid (Tok.endAt_succ 0 body k hkb)
          have hput : Hid ((body.take (k + 1)).foldl Tok.put (List.replicate l.length 32) = (((body.take k).foldl Tok.put (List.replicate l.length 32)).take body[k].pos) ++ ((l.drop body[k].pos).take (Tok.ttext body[k]).length ++ (((body.take k).foldl Tok.put (List.replicate l.length 32)).drop (body[k].pos + (Tok.ttext body[k]).length)))) := Lib.hid (by rw [ht, foldl_take body _ k hkb]; rfl)
          have hBl : ((body.take k).foldl Tok.put (List.replicate l.length 32)).length = l.length := foldl_len l body HCH.out k (by omega)
          have hu0 : (0 : Int) ≤ (k : Int) := Int.natCast_nonneg _
          have hu1 : (k : Int) < (m : Int) := by omega
          have hu2 : (k : Int) < (L.length : Int) := by omega
          have hg4 : ((body[k].kind : Int) == 4) = false := by simpa using (by omega : ¬ (body[k].kind : Int) = 4)
          clear c0 c1 c2 ht gd hgk hLk
          generalize (body.take k).foldl Tok.put (List.replicate l.length 32) = BB at hB hput hBl
          generalize Tok.endAt 0 body k = E at he ⊢
          generalize (Tok.ttext body[k]).length = N at hp hps C1 hnext hput
          generalize body[k].pos = p at he hp d1 C1 hnext hput
          generalize (body[k].kind : Int) = kd at d0 C1 hg4
          generalize (⟨body[k].text.toArray⟩ : ByteArray) = tx at d2 C1
          obtain ⟨pI, hpI⟩ : ∃ x : Int, (p : Int) = x := ⟨_, rfl⟩
          obtain ⟨NI, hNI⟩ : ∃ x : Int, (N : Int) = x := ⟨_, rfl⟩
          obtain ⟨EI, hEI⟩ : ∃ x : Int, (E : Int) = x := ⟨_, rfl⟩
          obtain ⟨qI, hqI⟩ : ∃ x : Int, ((p + N : Nat) : Int) = x := ⟨_, rfl⟩
          rw [hpI] at d1 C1
          rw [hNI] at C1
          rw [hEI]
          have hadd : IntKind.i64.wrap (pI + NI) = qI := by rw [IntKind.wrap_i64]; omega
          have f1 : decide (pI < EI) = false := by simp; omega
          have f2 : decide (NI < 1) = false := by simp; omega
          have f3 : decide ((l.length : Int) < qI) = false := by simp; omega
          have f4 : (0 : Int) ≤ pI := by omega
          have f5 : pI ≤ qI := by omega
          have f6 : qI ≤ (l.length : Int) := by omega
          have f7 : pI < (l.length : Int) := by omega
          have HPT : Hid (pI.toNat = p) := Lib.hid (by omega)
          have HQT : Hid (qI.toNat = p + N) := Lib.hid (by omega)
          have hgk2 : gL < wr.heap.size := by have := buf_lt hB; omega
          have hgk3 : g ≤ wr.heap.size := by have := buf_lt hB; omega
          go_wp2_with (go_at_call 14; (with_reducible refine (C1.out _).mono ?_); rintro e w3 ⟨rfl, hb3⟩; replace d0 := (hb3.cell (p := ⟨gL, k * 3, none⟩) hgk2).trans d0; replace d1 := (hb3.cell (p := ⟨gL, k * 3 + 1, none⟩) hgk2).trans d1; replace hB := buf_below hB hb3; replace hb := hb.trans (hb3.mono hgk3); clear hb3 C1 d2)
          refine wp_region_held_drew (S := fun w' => w'.cell? ⟨gL, k * 3 + 1, none⟩ = some (.int .i64 (p : Int))) (by kernel_rfl) ?_ (fun hHeld0 => ?_)
          · first | assumption | go_keep
          refine wpAnyH_take (i := 0) (oi := { dst := some 124, op := Go.Op.move (Go.Operand.tmp 6), type := 37, pos := "law.go:99", after := #[], guard := none }) (v := ?v_1_0) rfl (by kernel_rfl) (by kernel_rfl) (by kernel_rfl) (fun _ _ _ h => h) (Or.inl ⟨by rfl, ?hy_1_0⟩) (by assumption) ?rest_1_0
          case hy_1_0 => (intro w hSw; (try dsimp only at hSw); go_simp; (try (with_reducible rfl)))
          (try simp only [Act.put, List.setIfInBounds_toArray, List.set_cons_succ, List.set_cons_zero])
          refine wpAnyH_take (i := 1) (oi := { dst := some 125, op := Go.Op.move (Go.Operand.tmp 3), type := 23, pos := "law.go:99", after := #[], guard := none }) (v := ?v_1_1) rfl (by kernel_rfl) (by kernel_rfl) (by kernel_rfl) (fun _ _ _ h => h) (Or.inl ⟨by rfl, ?hy_1_1⟩) (by assumption) ?rest_1_1
          case hy_1_1 => (intro w hSw; (try dsimp only at hSw); go_simp; (try (with_reducible rfl)))
          (try simp only [Act.put, List.setIfInBounds_toArray, List.set_cons_succ, List.set_cons_zero])
          refine wpAnyH_take (i := 2) (oi := { dst := some 126, op := Go.Op.move (Go.Operand.tmp 9), type := 3, pos := "law.go:99", after := #[], guard := none }) (v := ?v_1_2) rfl (by kernel_rfl) (by kernel_rfl) (by kernel_rfl) (fun _ _ _ h => h) (Or.inl ⟨by rfl, ?hy_1_2⟩) (by assumption) ?rest_1_2
          case hy_1_2 => (intro w hSw; (try dsimp only at hSw); go_simp; (try (with_reducible rfl)))
          (try simp only [Act.put, List.setIfInBounds_toArray, List.set_cons_succ, List.set_cons_zero])
          refine wpAnyH_take (i := 3) (oi := { dst := some 127, op := Go.Op.indexAddr 23 (Go.Operand.tmp 125) (Go.Operand.tmp 126), type := 0, pos := "law.go:99", after := #[{ on := 1, ground := Go.Ground.data }, { on := 2, ground := Go.Ground.data }], guard := none }) (v := ?v_1_3) rfl (by kernel_rfl) (by kernel_rfl) (by kernel_rfl) (fun _ _ _ h => h) (Or.inl ⟨by rfl, ?hy_1_3⟩) (by assumption) ?rest_1_3
          case hy_1_3 => (intro w hSw; (try dsimp only at hSw); go_simp; (try (with_reducible rfl)))
          (try simp only [Act.put, List.setIfInBounds_toArray, List.set_cons_succ, List.set_cons_zero])
          refine wpAnyH_take (i := 4) (oi := { dst := some 128, op := Go.Op.fieldAddr 36 (Go.Operand.tmp 127) 1, type := 0, pos := "law.go:99", after := #[{ on := 3, ground := Go.Ground.data }], guard := none }) (v := ?v_1_4) rfl (by kernel_rfl) (by kernel_rfl) (by kernel_rfl) (fun _ _ _ h => h) (Or.inl ⟨by rfl, ?hy_1_4⟩) (by assumption) ?rest_1_4
          case hy_1_4 => (intro w hSw; (try dsimp only at hSw); go_simp; (try (with_reducible rfl)))
          (try simp only [Act.put, List.setIfInBounds_toArray, List.set_cons_succ, List.set_cons_zero])
          refine wpAnyH_take (i := 5) (oi := { dst := some 129, op := Go.Op.load 3 (Go.Operand.tmp 128), type := 3, pos := "law.go:99", after := #[{ on := 4, ground := Go.Ground.data }], guard := none }) (v := ?v_1_5) rfl (by kernel_rfl) (by kernel_rfl) (by kernel_rfl) (fun _ _ _ h => h) (Or.inl ⟨by rfl, ?hy_1_5⟩) (by assumption) ?rest_1_5
          case hy_1_5 => (intro w hSw; (try dsimp only at hSw); go_simp; (try (with_reducible rfl)))
          (try simp only [Act.put, List.setIfInBounds_toArray, List.set_cons_succ, List.set_cons_zero])
          refine wpAnyH_take (i := 6) (oi := { dst := some 130, op := Go.Op.move (Go.Operand.tmp 8), type := 3, pos := "law.go:99", after := #[], guard := none }) (v := ?v_1_6) rfl (by kernel_rfl) (by kernel_rfl) (by kernel_rfl) (fun _ _ _ h => h) (Or.inl ⟨by rfl, ?hy_1_6⟩) (by assumption) ?rest_1_6
          case hy_1_6 => (intro w hSw; (try dsimp only at hSw); go_simp; (try (with_reducible rfl)))
          (try simp only [Act.put, List.setIfInBounds_toArray, List.set_cons_succ, List.set_cons_zero])
          refine wpAnyH_take (i := 7) (oi := { dst := some 131, op := Go.Op.slice 37 (Go.Operand.tmp 124) (some (Go.Operand.tmp 129)) (some (Go.Operand.tmp 130)) none, type := 37, pos := "law.go:99", after := #[{ on := 0, ground := Go.Ground.data }, { on := 5, ground := Go.Ground.data }, { on := 6, ground := Go.Ground.data }], guard := none }) (v := ?v_1_7) rfl (by kernel_rfl) (by kernel_rfl) (by kernel_rfl) (fun _ _ _ h => h) (Or.inl ⟨by rfl, ?hy_1_7⟩) (by assumption) ?rest_1_7
          case hy_1_7 => (intro w hSw; (try dsimp only at hSw); go_simp; (try (with_reducible rfl)))
          (try simp only [Act.put, List.setIfInBounds_toArray, List.set_cons_succ, List.set_cons_zero])
          refine wpAnyH_take (i := 8) (oi := { dst := some 132, op := Go.Op.move (Go.Operand.tmp 0), type := 9, pos := "law.go:99", after := #[], guard := none }) (v := ?v_1_8) rfl (by kernel_rfl) (by kernel_rfl) (by kernel_rfl) (fun _ _ _ h => h) (Or.inl ⟨by rfl, ?hy_1_8⟩) (by assumption) ?rest_1_8
          case hy_1_8 => (intro w hSw; (try dsimp only at hSw); go_simp; (try (with_reducible rfl)))
          (try simp only [Act.put, List.setIfInBounds_toArray, List.set_cons_succ, List.set_cons_zero])
          refine wpAnyH_take (i := 9) (oi := { dst := some 133, op := Go.Op.move (Go.Operand.tmp 3), type := 23, pos := "law.go:99", after := #[], guard := none }) (v := ?v_1_9) rfl (by kernel_rfl) (by kernel_rfl) (by kernel_rfl) (fun _ _ _ h => h) (Or.inl ⟨by rfl, ?hy_1_9⟩) (by assumption) ?rest_1_9
          case hy_1_9 => (intro w hSw; (try dsimp only at hSw); go_simp; (try (with_reducible rfl)))
          (try simp only [Act.put, List.setIfInBounds_toArray, List.set_cons_succ, List.set_cons_zero])
          refine wpAnyH_take (i := 10) (oi := { dst := some 134, op := Go.Op.move (Go.Operand.tmp 9), type := 3, pos := "law.go:99", after := #[], guard := none }) (v := ?v_1_10) rfl (by kernel_rfl) (by kernel_rfl) (by kernel_rfl) (fun _ _ _ h => h) (Or.inl ⟨by rfl, ?hy_1_10⟩) (by assumption) ?rest_1_10
          case hy_1_10 => (intro w hSw; (try dsimp only at hSw); go_simp; (try (with_reducible rfl)))
          (try simp only [Act.put, List.setIfInBounds_toArray, List.set_cons_succ, List.set_cons_zero])
          refine wpAnyH_take (i := 11) (oi := { dst := some 135, op := Go.Op.indexAddr 23 (Go.Operand.tmp 133) (Go.Operand.tmp 134), type := 0, pos := "law.go:99", after := #[{ on := 9, ground := Go.Ground.data }, { on := 10, ground := Go.Ground.data }], guard := none }) (v := ?v_1_11) rfl (by kernel_rfl) (by kernel_rfl) (by kernel_rfl) (fun _ _ _ h => h) (Or.inl ⟨by rfl, ?hy_1_11⟩) (by assumption) ?rest_1_11
          case hy_1_11 => (intro w hSw; (try dsimp only at hSw); go_simp; (try (with_reducible rfl)))
          (try simp only [Act.put, List.setIfInBounds_toArray, List.set_cons_succ, List.set_cons_zero])
          refine wpAnyH_take (i := 12) (oi := { dst := some 136, op := Go.Op.fieldAddr 36 (Go.Operand.tmp 135) 1, type := 0, pos := "law.go:99", after := #[{ on := 11, ground := Go.Ground.data }], guard := none }) (v := ?v_1_12) rfl (by kernel_rfl) (by kernel_rfl) (by kernel_rfl) (fun _ _ _ h => h) (Or.inl ⟨by rfl, ?hy_1_12⟩) (by assumption) ?rest_1_12
          case hy_1_12 => (intro w hSw; (try dsimp only at hSw); go_simp; (try (with_reducible rfl)))
          (try simp only [Act.put, List.setIfInBounds_toArray, List.set_cons_succ, List.set_cons_zero])
          refine wpAnyH_take (i := 13) (oi := { dst := some 137, op := Go.Op.load 3 (Go.Operand.tmp 136), type := 3, pos := "law.go:99", after := #[{ on := 12, ground := Go.Ground.data }], guard := none }) (v := ?v_1_13) rfl (by kernel_rfl) (by kernel_rfl) (by kernel_rfl) (fun _ _ _ h => h) (Or.inl ⟨by rfl, ?hy_1_13⟩) (by assumption) ?rest_1_13
          case hy_1_13 => (intro w hSw; (try dsimp only at hSw); go_simp; (try (with_reducible rfl)))
          (try simp only [Act.put, List.setIfInBounds_toArray, List.set_cons_succ, List.set_cons_zero])
          refine wpAnyH_take (i := 14) (oi := { dst := some 138, op := Go.Op.move (Go.Operand.tmp 8), type := 3, pos := "law.go:99", after := #[], guard := none }) (v := ?v_1_14) rfl (by kernel_rfl) (by kernel_rfl) (by kernel_rfl) (fun _ _ _ h => h) (Or.inl ⟨by rfl, ?hy_1_14⟩) (by assumption) ?rest_1_14
          case hy_1_14 => (intro w hSw; (try dsimp only at hSw); go_simp; (try (with_reducible rfl)))
          (try simp only [Act.put, List.setIfInBounds_toArray, List.set_cons_succ, List.set_cons_zero])
          refine wpAnyH_take (i := 15) (oi := { dst := some 139, op := Go.Op.slice 9 (Go.Operand.tmp 132) (some (Go.Operand.tmp 137)) (some (Go.Operand.tmp 138)) none, type := 9, pos := "law.go:99", after := #[{ on := 8, ground := Go.Ground.data }, { on := 13, ground := Go.Ground.data }, { on := 14, ground := Go.Ground.data }], guard := none }) (v := ?v_1_15) rfl (by kernel_rfl) (by kernel_rfl) (by kernel_rfl) (fun _ _ _ h => h) (Or.inl ⟨by rfl, ?hy_1_15⟩) (by assumption) ?rest_1_15
          case hy_1_15 => (intro w hSw; (try dsimp only at hSw); go_simp; (try (with_reducible rfl)))
          (try simp only [Act.put, List.setIfInBounds_toArray, List.set_cons_succ, List.set_cons_zero])
          refine wpAnyH_ready (rs := [16]) (by kernel_rfl) (by simp) ?_
          refine AllReadyH.cons (o := { dst := some 140, op := Go.Op.call { callee := Go.Callee.builtin Go.Builtin.copy, args := #[Go.Operand.tmp 131, Go.Operand.tmp 139], argTypes := #[37, 9] }, type := 3, pos := "law.go:99", after := #[{ on := 7, ground := Go.Ground.data }, { on := 15, ground := Go.Ground.data }], guard := none }) rfl (fun K hK => ?_) AllReadyH.nil
          (refine step_copy_buf (by rfl) _ _ (by rfl) g p N (l.length - p) (by go_simp; exact ⟨by rw [HPT.out, if_neg (by omega)], by rw [HPT.out, HQT.out]; omega, by rw [HPT.out]⟩) ⟨((l.drop p).take N).toArray⟩ (by go_simp; rw [HPT.out, HQT.out]; exact extract_take l p N) ((l.drop p).take N) rfl (by simp; omega) BB (show BufAt w3.drew g BB from hB) (by simp; omega) ?hK; intro w4 hB4 hb4; have d4 := (hb4.cell (p := ⟨gL, k * 3 + 1, none⟩) hgL).trans d1)
          (try dsimp only)
          refine hK.out _ _ ?_ (fun hHeld1 => ?_)
          · (try dsimp only); first | assumption | go_keep
          clear hK K hHeld0
          (try simp only [Act.put, List.setIfInBounds_toArray, List.set_cons_succ, List.set_cons_zero])
          refine wpAnyH_done (by kernel_rfl) ?_ _

          replace hB : BufAt w4 g (BB.take p ++ ((l.drop p).take N ++ BB.drop (p + N))) := by
            have hN : ((l.drop p).take N).length = N := by simp; omega
            rw [hN] at hB4
            exact hB4
          go_wp2_with fail
          go_roundw
          case rel => exact ⟨k + 1, by omega, by go_num, by rw [hnext.out, hqI], by rw [hput.out]; exact hB, (hb.drew).trans hb4⟩
          case measure => simp [intOf]; omega
        · obtain rfl : k = m := by omega
          have hall : body.take k = body := by rw [← HM.out]; exact List.take_length
          rw [hall] at hB
          have hcv := buf_str hB l.length HBL.out
          have hwl := HBL.out
          obtain ⟨BB, hBB⟩ : ∃ x, body.foldl Tok.put (List.replicate l.length 32) = x := ⟨_, rfl⟩
          have hlx := HLX.out
          rw [hBB] at hB hcv hwl hlx
          have HLX2 := Lib.hid hlx
          have hkk : decide (k < k) = false := by simp
          clear hlx hBB
          go_wp2_with fail
          refine (lex_any BB _ (by omega)).mono ?_
          rw [HLX2.out]
          rintro e w3 ⟨A3, c3, rfl, hown3, hb3⟩
          dsimp only at hown3 ⊢
          have hgs : g ≤ wr.heap.size := Nat.le_of_lt (buf_lt hB)
          have hbw : Below g w1 w3 := hb.trans (hb3.mono hgs)
          have ho1 := own_below hown1 hbw (by rw [HGH.out]; exact Nat.le_refl _)
          have hs3 := hb3.size
          clear hcv hB hown1 hb3 hb
          go_wp2_with fail
          refine (ours_any _ A3 c3 L _ hown3 (by omega)).mono ?_
          rintro e w4 ⟨A4, c4, rfl, hown4, hb4⟩
          have ho2 := own_below ho1 hb4 (Nat.le_refl _)
          go_wp2_with fail
          refine (ours_any _ _ c1 L _ ho2 (by omega)).mono ?_
          rintro e w5 ⟨A5, c5, rfl, hown5, hb5⟩
          have ho4 := own_below hown4 hb5 (Nat.le_refl _)
          go_wp2_with fail
          refine (same_true _ _ A4 A5 c4 c5 L _ ho4 hown5 (by omega)).mono ?_
          rintro e w6 ⟨rfl, nq, rfl⟩
          clear ho1 ho2 ho4 hown3 hown4 hown5
          go_wp2_with (go_at_call 8; refine (alive_any _).mono ?_; rintro e w7 ⟨rfl, hb7⟩)
          go_ret
          have s1 := hb1.size
          have s4 := hb4.size
          have s5 := hb5.size
          have hgg := HGH.out
          have b5 : Below w.heap.size w w5 := ((hb1.trans (hbw.mono (by omega))).trans (hb4.mono (by omega))).trans (hb5.mono (by omega))
          exact ⟨rfl, (below_drewN b5 nq).trans (hb7.mono (by have h : (w5.drewN nq).heap.size = w5.heap.size := rfl
                                                              omega))⟩

theorem tokenPlaces_walk (l : List UInt8) (w : World) (hl : l.length ≤ 9223372036854775807) :
    Calls Try.prog 5 #[.string ⟨l.toArray⟩] w fun e w' => e = .returned (.bool true) ∧ Below w.heap.size w w' := by
  by_cases h1 : 2000 < l.length
  · exact places_long l w h1
  obtain ⟨⟨L, a, er⟩, hx⟩ : ∃ x, Tok.lexF l = x := ⟨_, rfl⟩
  by_cases he : er = 0
  · subst he
    obtain ⟨body, h2, h3, h4, h5⟩ := Tok.places l L a (by omega) hx
    exact places_good l w (by omega) L body a hx h2 h3 h4 h5
  · exact places_err l w (by omega) L a er hx (by simpa using he) (Tok.err_pos l L a er hx he)
end Go.Proofs.Ytngdfcommoenkaa
