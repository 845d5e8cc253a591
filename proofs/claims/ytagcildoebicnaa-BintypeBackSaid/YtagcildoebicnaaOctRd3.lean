/-
  A Reader's Count, Take of one byte, and Byte.
-/
import Derived.Test.YtagcildoebicnaaOctRd2
set_option linter.unusedVariables false
namespace Go.Proofs.Ytagcildoebicnaa
open Go.RowKit

theorem RdrAt.in_ {W : World} {B g : Nat} {v : Value} {b : List UInt8} {s : Oct.St} (h : RdrAt W B (.pointer (some ⟨g, 0, none⟩)) v b s) : RdrIn W B g v b s := by
  rcases h.it with ⟨h1, -⟩ | ⟨g', h1, hi⟩
  · injection h1 with h1; cases h1
  · injection h1 with h1; injection h1 with h1; injection h1 with h1; subst h1; exact hi
theorem RdrAt.ptr {W : World} {B : Nat} {p v : Value} {b : List UInt8} {s : Oct.St} (h : RdrAt W B p v b s) (h0 : s.err = 0) : ∃ g, p = .pointer (some ⟨g, 0, none⟩) := by
  rcases h.it with ⟨-, -, h4, -⟩ | ⟨g, rfl, hi⟩
  · rw [h4] at h0; cases h0
  · exact ⟨g, rfl⟩

set_option maxHeartbeats 1000000 in
set_option maxRecDepth 100000 in
theorem count_any {W : World} {B : Nat} {p v : Value} {b : List UInt8} {s : Oct.St} (h : RdrAt W B p v b s) (most : Int) :
    Calls Try.prog 98 #[p, .int .i64 most] W fun e w' => e = .returned (.int .i64 (Oct.count b s most).2) ∧ RStep W B p v b (Oct.count b s most).1 w' := by
  have HS := Lib.hid (sound_any h)
  by_cases h0 : s.err = 0
  · obtain ⟨g, rfl⟩ := h.ptr h0
    have hi := h.in_
    have hc2 := hi.c2
    have HC := Lib.hid (rdU32_any h)
    rw [show (s.err == 0) = true by simpa using h0] at HS
    have h3 : Oct.count b s most = if (Oct.u32 b s).1.err = 0 ∧ most < (Oct.u32 b s).2 then (⟨s.at_, 6⟩, 0) else Oct.u32 b s := by
      unfold Oct.count Oct.St.fail; rw [if_pos h0]
    rw [h3]
    obtain ⟨s1, hs1⟩ : ∃ s1, (Oct.u32 b s).1 = s1 := ⟨_, rfl⟩
    obtain ⟨n, hn⟩ : ∃ n, (Oct.u32 b s).2 = n := ⟨_, rfl⟩
    rw [show Oct.u32 b s = (s1, n) from by rw [← hs1, ← hn]] at HC ⊢
    dsimp only at HC ⊢
    clear h3 hs1 hn
    by_cases h1 : s1.err = 0
    · have g1 : (s1.err == 0) = true := by simpa using h1
      by_cases h2 : most < n
      · have g2 : decide (most < n) = true := by simpa using h2
        rw [if_pos ⟨h1, h2⟩]
        have H1 := Lib.hid h1
        have hle := hi.le
        clear h1 h0
        go_enter Try.func98, Try.ntmps98
        go_wp2_with (go_at_call 81; refine HS.out.mono ?_; rintro e w1 ⟨rfl, rfl⟩)
        go_wp2_with fail
        refine HC.out.mono ?_
        rintro e w1 ⟨rfl, hst⟩
        have hi1 := hst.1.in_
        have hd3 := hi1.c3
        have hf2 := hi1.f2
        have hd2 := hi1.c2
        go_wp2_with fail
        have hset : RStep w1 B (.pointer (some ⟨g, 0, none⟩)) v b ⟨s.at_, 0⟩ (w1.setCell ⟨g, 2, none⟩ (.int .i64 (s.at_ : Int))) := by
          refine hi1.set ?_ ((Below.refl _ _).setCell hi1.lo _) (fun j _ hj => Below.heap_setCell _ _ _ _ hj) hle
          rw [Go.heap_setCell_same w1 g 2 _ _ _ hi1.blk, H1.out]; rfl
        refine (fail_any hset.1 6).mono ?_
        rintro e w2 ⟨rfl, hst2⟩
        go_wp2
        go_ret
        exact ⟨rfl, (hst.trans hset).trans hst2⟩
      · have g2 : decide (most < n) = false := by simpa using h2
        rw [if_neg (fun hh => h2 hh.2)]
        clear h1 h0 h2
        go_enter Try.func98, Try.ntmps98
        go_wp2_with (go_at_call 81; refine HS.out.mono ?_; rintro e w1 ⟨rfl, rfl⟩)
        go_wp2_with fail
        refine HC.out.mono ?_
        rintro e w1 ⟨rfl, hst⟩
        have hd3 := hst.1.in_.c3
        go_wp2
        go_ret
        exact ⟨rfl, hst⟩
    · have g1 : (s1.err == 0) = false := by simpa using h1
      rw [if_neg (fun hh => h1 hh.1)]
      clear h1 h0
      go_enter Try.func98, Try.ntmps98
      go_wp2_with (go_at_call 81; refine HS.out.mono ?_; rintro e w1 ⟨rfl, rfl⟩)
      go_wp2_with fail
      refine HC.out.mono ?_
      rintro e w1 ⟨rfl, hst⟩
      have hd3 := hst.1.in_.c3
      go_wp2
      go_ret
      exact ⟨rfl, hst⟩
  · have h3 : Oct.count b s most = (s, 0) := by
      unfold Oct.count; rw [Oct.u32_no h0]; rw [if_neg (fun hh => h0 hh.1)]
    rw [h3]
    rw [show (s.err == 0) = false by simpa using h0] at HS
    clear h3 h0
    go_enter Try.func98, Try.ntmps98
    go_wp2_with (go_at_call 81; refine HS.out.mono ?_; rintro e w1 ⟨rfl, rfl⟩)
    go_ret
    exact ⟨rfl, .same h⟩

theorem slice_one (a : Addr) (n c k : Nat) (hk : k < n) (hc : n ≤ c) (w : World) :
    (Instr.slice 22 (.slice (some a) n c) (some (.int .i64 (k : Int))) (some (.int .i64 ((k : Int) + 1))) (some (.int .i64 ((k : Int) + 1)))).run Try.prog w = .ok (.slice (some (a.add k)) 1 1) w := by
  have hu : Try.prog.underlying 22 = some (.slice (Try.prog.elem 22)) := by kernel_rfl
  have hs : (sizeOf (Try.prog.elem 22)).run Try.prog w = .ok 1 w := by kernel_rfl
  rw [run_slice_lhm w _ (some a) n c hu .i64 .i64 .i64 (k : Int) ((k : Int) + 1) ((k : Int) + 1) (by omega) (by omega) (by omega) (by omega), hs]
  have e1 : ((k : Int) + 1).toNat = k + 1 := by omega
  show Result.ok (sliced (some a) (k : Int).toNat ((k : Int) + 1).toNat ((k : Int) + 1).toNat 1) w = _
  rw [e1, Int.toNat_natCast]
  unfold sliced
  rw [if_neg (by omega)]
  simp
set_option maxHeartbeats 1000000 in
set_option maxRecDepth 100000 in
theorem cut_any {W : World} {B g : Nat} {v : Value} {b : List UInt8} {s : Oct.St} (h : RdrAt W B (.pointer (some ⟨g, 0, none⟩)) v b s) (hlt : s.at_ < b.length) :
    Calls Try.prog 102 #[.pointer (some ⟨g, 0, none⟩), .int .i64 1] W fun e w' => ∃ ad : Addr, ad.block < w'.heap.size ∧ w'.cell? ad = some (bv (b.getD s.at_ 0)) ∧ e = .returned (.slice (some ad) 1 1) ∧ RStep W B (.pointer (some ⟨g, 0, none⟩)) v b ⟨s.at_ + 1, s.err⟩ w' := by
  have hi := h.in_
  obtain ⟨A, c, rfl, hlc, _⟩ := own_slice hi.row
  obtain ⟨k, rfl, hk, hklt, hcell⟩ := own_at hi.row (by omega)
  have hne : k ≠ g := fun e => hi.ne (by rw [e]; rfl)
  have hc1 := hi.c1
  have hc2 := hi.c2
  have hf := hi.f2
  have hbig := hi.big
  have hsl := fun w => slice_one ⟨k, 0, none⟩ b.length c s.at_ hlt hlc w
  have hc2' : W.drew.cell? ⟨g, 2, none⟩ = some (.int .i64 (s.at_ : Int)) := hc2
  go_enter Try.func102, Try.ntmps102
  go_wp2
  go_quiet (fail)
  go_wp2
  go_ret
  refine ⟨_, ?_, ?_, rfl, (RStep.below h (below_drewN_ (Below.refl _ _) nq)).trans ((hi.keep (W' := W.drewN nq) rfl (fun _ _ => rfl)).set (s' := ⟨s.at_ + 1, s.err⟩) ?_ ((Below.refl _ _).setCell hi.lo _) (fun j _ hj => Below.heap_setCell _ _ _ _ hj) (by dsimp only; omega))⟩
  · simpa using hklt
  · have := hcell s.at_ hlt
    rw [World.cell?_setCell_other _ _ _ _ (by intro e; injection e with e; exact hne e.symm)]
    refine Eq.trans this ?_
    rw [List.getD_eq_getElem?_getD, List.getElem?_eq_getElem hlt]; rfl
  · rw [Go.heap_setCell_same (W.drewN nq) g 2 _ _ _ hi.blk]; rfl

theorem take_reads (w : World) (ad : Addr) (x : Value) (h : w.cell? ad = some x) (hb : ad.block < w.heap.size) : Reads w w.heap.size 1 (some ad) 1 [x] :=
  ⟨rfl, fun _ => ⟨_, rfl, hb, fun j u hj => by
    match j, hj with
    | 0, hj => simp at hj; subst hj; unfold Addr.add; simpa using h
    | j + 1, hj => simp at hj⟩⟩

def TakeOne (W : World) (B : Nat) (p v : Value) (b : List UInt8) (s : Oct.St) (e : Ending) (w' : World) : Prop :=
  ((Oct.byte b s).2 = 0 ∧ ¬ (s.err = 0 ∧ s.at_ < b.length) ∧ e = .returned (.slice none 0 0) ∧ RStep W B p v b (Oct.byte b s).1 w') ∨
  (∃ ad c, e = .returned (.slice (some ad) 1 c) ∧ w'.cell? ad = some (.int .u8 (Oct.byte b s).2) ∧ RStep W B p v b (Oct.byte b s).1 w')
set_option maxHeartbeats 1000000 in
set_option maxRecDepth 100000 in
theorem take_any {W : World} {B : Nat} {p v : Value} {b : List UInt8} {s : Oct.St} (h : RdrAt W B p v b s) :
    Calls Try.prog 92 #[p, .int .i64 1] W (TakeOne W B p v b s) := by
  have HS := Lib.hid (sound_any h)
  by_cases h0 : s.err = 0
  · obtain ⟨g, rfl⟩ := h.ptr h0
    have hi := h.in_
    rw [show (s.err == 0) = true by simpa using h0] at HS
    obtain ⟨A, c, rfl, hlc, _⟩ := own_slice hi.row
    have hle := hi.le
    have hbig := hi.big
    have hc1 := hi.c1
    have hc2 := hi.c2
    by_cases hlt : s.at_ < b.length
    · have hcut := Lib.hid (fun q => cut_any (h.below (below_drewN_ (Below.refl _ _) q)) hlt)
      have hby : Oct.byte b s = (⟨s.at_ + 1, 0⟩, ((b.getD s.at_ 0).toNat : Int)) := by unfold Oct.byte; rw [if_pos h0, if_pos hlt]
      have hq : decide ((b.length : Int) - (s.at_ : Int) < 1) = false := by simp; omega
      have HE := Lib.hid h0
      clear h0
      go_enter Try.func92, Try.ntmps92
      go_wp2_with (go_at_call 81; refine HS.out.mono ?_; rintro e w1 ⟨rfl, rfl⟩)
      go_quiet (fail)
      go_wp2_with fail
      refine (hcut.out _).mono ?_
      rintro e w1 ⟨ad, hadl, hadc, rfl, hst⟩
      have own0 := World.ownsRow_nil w1 w1.heap.size 5 1
      go_wp2_with (at_builtin; refine app_bytes w1 rfl (.const (.slice none 0 0)) (.tmp 31) rfl w1.heap.size _ [] rfl own0 w1.heap.size (some ad) 1 [b.getD s.at_ 0] rfl (take_reads w1 ad _ hadc hadl) (by simp) (Nat.le_refl _) ?_; intro A1 c1 w2 hown1 hg1 hat1)
      go_ret
      obtain ⟨k, rfl, hk, hklt, hcell⟩ := own_at hown1 (by simp)
      have hb := below_own own0 hg1 (Nat.le_refl _)
      refine .inr ⟨_, _, rfl, ?_, ?_⟩
      · rw [hby]; exact hcell 0 (by simp)
      · rw [hby, ← HE.out]; exact (RStep.below h (below_drewN_ (Below.refl _ _) _)).trans (hst.trans (RStep.below hst.1 hb))
    · have hby : Oct.byte b s = (⟨s.at_, 3⟩, 0) := by unfold Oct.byte; rw [if_pos h0, if_neg hlt]
      have hF : s.fail 3 = ⟨s.at_, 3⟩ := by unfold Oct.St.fail; rw [if_pos h0]
      have HF : Hid (∀ q, Calls Try.prog 46 #[.pointer (some ⟨g, 0, none⟩), .int .i64 3] (W.drewN q) fun e w' => e = .returned (.tuple #[]) ∧ RStep (W.drewN q) B (.pointer (some ⟨g, 0, none⟩)) (.slice A b.length c) b ⟨s.at_, 3⟩ w') := by
        intro q; rw [← hF]; exact fail_any (h.below (below_drewN_ (Below.refl _ _) q)) 3
      have hq : decide ((b.length : Int) - (s.at_ : Int) < 1) = true := by simp; omega
      have HL := Lib.hid hlt
      clear h0 hF hlt
      go_enter Try.func92, Try.ntmps92
      go_wp2_with (go_at_call 81; refine HS.out.mono ?_; rintro e w1 ⟨rfl, rfl⟩)
      go_quiet (fail)
      go_wp2_with (go_at_call 46; refine (HF.out _).mono ?_; rintro e w1 ⟨rfl, hst⟩)
      go_ret
      exact .inl ⟨by rw [hby], fun hh => HL.out hh.2, rfl, by rw [hby]; exact (RStep.below h (below_drewN_ (Below.refl _ _) _)).trans hst⟩
  · have hby : Oct.byte b s = (s, 0) := by unfold Oct.byte; rw [if_neg h0]
    rw [show (s.err == 0) = false by simpa using h0] at HS
    have HE := Lib.hid h0
    clear h0
    go_enter Try.func92, Try.ntmps92
    go_wp2_with (go_at_call 81; refine HS.out.mono ?_; rintro e w1 ⟨rfl, rfl⟩)
    go_ret
    exact .inl ⟨by rw [hby], fun hh => HE.out hh.1, rfl, by rw [hby]; exact .same h⟩

theorem rdByte_any {W : World} {B : Nat} {p v : Value} {b : List UInt8} {s : Oct.St} (h : RdrAt W B p v b s) :
    Calls Try.prog 63 #[p] W fun e w' => e = .returned (.int .u8 (Oct.byte b s).2) ∧ RStep W B p v b (Oct.byte b s).1 w' := by
  have HT := Lib.hid (take_any h)
  go_enter Try.func63, Try.ntmps63
  go_wp2_with fail
  refine HT.out.mono ?_
  rintro e w1 (⟨hz, hno, rfl, hst⟩ | ⟨ad, c, rfl, hc, hst⟩)
  · have HZ := Lib.hid hz
    clear hz hno
    go_wp2
    go_ret
    exact ⟨by rw [HZ.out]; rfl, hst⟩
  · go_wp2
    go_ret
    exact ⟨rfl, hst⟩
end Go.Proofs.Ytagcildoebicnaa
