/-
  The law's helpers put and got, and the chapter's examples.
-/
import Derived.Test.YtagcildoebicnaaRefBtP3
import Derived.Test.YtagcildoebicnaaBtGet5
set_option linter.unusedVariables false
set_option linter.unusedSimpArgs false
namespace Go.Proofs.Ytagcildoebicnaa
open Go.RowKit

theorem cv_bytes {W : World} {B : Nat} {A : Option Addr} {l : List UInt8} (h : RdB W B A l) (c n : Nat) (hn : l.length = n) :
    (convert 22 9 (.slice A n c)).run Try.prog W = .ok (.string ⟨l.toArray⟩) W := by
  subst hn
  exact run_string_of_bytes W 22 9 5 (by kernel_rfl) (by kernel_rfl) (by kernel_rfl) h c

set_option maxHeartbeats 4000000 in
set_option maxRecDepth 100000 in
theorem put_any {W : World} {B : Nat} {p v : Value} {s : Oct.Wt} (h : WrAt W B p v s) (A : Option Addr) (c n : Nat) (hn : s.b.length = n) (hr : RdB W W.heap.size A s.b) (hlen : s.b.length ≤ 10000000) :
    Calls Try.prog 18 #[p, .agg #[.slice A n c, .int .i64 s.err]] W fun e w' => e = .returned (.bool true) ∧ Below W.heap.size W w' := by
  have hb0 : Below W.heap.size W (W.alloc (.cells #[.slice A n c, .int .i64 s.err] 41)) := by go_grown
  have v_r := Var.new W #[.slice A n c, .int .i64 s.err] 41
  have HD := Lib.hid (wdone_any (h.below hb0) (by omega))
  have HE := Lib.hid (fun w hr => refDone_any A n c s w hn hr)
  have HR := Lib.hid hr
  generalize doneB s = l at HD HE
  clear hr hn
  go_enter Try.func18, Try.ntmps18
  go_wp2_with fail
  refine HD.out.mono ?_
  rintro e w1 ⟨A1, c1, rfl, hA1, hb⟩
  replace v_r := v_r.below hb v_r.lt
  have bw := hb0.trans (hb.mono hb0.size)
  have q_r := v_r.cells
  have sz := bw.size
  go_wp2_with fail
  refine (HE.out _ ((HR.out.below bw).more sz)).mono ?_
  rintro e w2 ⟨A2, c2, rfl, hA2, hb2⟩
  have cv1 := cv_bytes (hA1.below hb2) c1 l.length rfl
  have cv2 := cv_bytes hA2 c2 l.length rfl
  have bw2 := bw.trans (hb2.mono sz)
  clear q_r hA1 hA2 hb hb2
  generalize hS : (⟨l.toArray⟩ : ByteArray) = S at cv1 cv2
  clear hS
  go_wp2
  go_ret
  exact ⟨rfl, bw2⟩

set_option maxHeartbeats 4000000 in
set_option maxRecDepth 100000 in
theorem got_any {W : World} {B : Nat} {p v : Value} {b : List UInt8} {s : Oct.St} (h : RdrAt W B p v b s) (A : Option Addr) (c n : Nat) :
    Calls Try.prog 20 #[p, .agg #[.slice A n c, .int .i64 (s.at_ : Int), .int .i64 s.err]] W fun e w' => e = .returned (.bool true) ∧ Below W.heap.size W w' := by
  have hb0 : Below W.heap.size W (W.alloc (.cells #[.slice A n c, .int .i64 (s.at_ : Int), .int .i64 s.err] 35)) := by go_grown
  have HE : Hid (∀ q, Calls Try.prog 42 #[p] ((W.alloc (.cells #[.slice A n c, .int .i64 (s.at_ : Int), .int .i64 s.err] 35)).drewN q) fun e w' => e = .returned (.int .i64 s.err) ∧ ∃ m, w' = (W.alloc (.cells #[.slice A n c, .int .i64 (s.at_ : Int), .int .i64 s.err] 35)).drewN m) := by
    intro q
    refine (err_any (h.below (below_drewN_ hb0 q))).mono ?_
    rintro e w1 ⟨rfl, rfl⟩
    exact ⟨rfl, q, rfl⟩
  have HA : Hid (∀ q, Calls Try.prog 48 #[p] ((W.alloc (.cells #[.slice A n c, .int .i64 (s.at_ : Int), .int .i64 s.err] 35)).drewN q) fun e w' => e = .returned (.int .i64 (s.at_ : Int)) ∧ ∃ m, w' = (W.alloc (.cells #[.slice A n c, .int .i64 (s.at_ : Int), .int .i64 s.err] 35)).drewN m) := by
    intro q
    refine (at_any (h.below (below_drewN_ hb0 q))).mono ?_
    rintro e w1 ⟨rfl, rfl⟩
    exact ⟨rfl, q, rfl⟩
  have g1 : (s.err == s.err) = true := by simp
  have g2 : ((s.at_ : Int) == (s.at_ : Int)) = true := by simp
  go_enter Try.func20, Try.ntmps20
  go_wp2_with fail
  go_quiet ((first | (go_at_call 42; exact HE.out _) | (go_at_call 48; exact HA.out _)))
  go_wp2
  go_ret
  exact ⟨rfl, below_drewN_ hb0 _⟩
end Go.Proofs.Ytagcildoebicnaa
