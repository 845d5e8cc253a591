/-
  The opcodes' tables as plain lists: the reference's rows, ours, and the names. (Printed by gen_opsp.py.)
  The reference's opcodes: its tables, find, Known, Name, Find. (Printed by gen_opref.py.)
  The reference's opcodes: numbers, the whole table. (Printed by gen_opref.py.)
-/
import Derived.Test.YtadnfekogmjieaaGreatDoorRows
import Derived.Lib.SpaceU
import Derived.Test.YtadnfekogmjieaaGreatDoorGGA
import Derived.Deep.CutBlock
set_option linter.unusedVariables false
namespace Go.Proofs.YtadnfekogmjieaaGreatDoor.Opc
open Go.Lib

abbrev R := Int × List UInt8 × Int
def ctl : List R := [(0, [117, 110, 114, 101, 97, 99, 104, 97, 98, 108, 101], 0),
  (1, [110, 111, 112], 0),
  (2, [98, 108, 111, 99, 107], 1),
  (3, [108, 111, 111, 112], 1),
  (4, [105, 102], 1),
  (5, [101, 108, 115, 101], 0),
  (11, [101, 110, 100], 0),
  (12, [98, 114], 2),
  (13, [98, 114, 95, 105, 102], 2),
  (14, [98, 114, 95, 116, 97, 98, 108, 101], 3),
  (15, [114, 101, 116, 117, 114, 110], 0),
  (16, [99, 97, 108, 108], 4),
  (17, [99, 97, 108, 108, 95, 105, 110, 100, 105, 114, 101, 99, 116], 5),
  (26, [100, 114, 111, 112], 0),
  (27, [115, 101, 108, 101, 99, 116], 0),
  (28, [115, 101, 108, 101, 99, 116], 6),
  (32, [108, 111, 99, 97, 108, 46, 103, 101, 116], 7),
  (33, [108, 111, 99, 97, 108, 46, 115, 101, 116], 7),
  (34, [108, 111, 99, 97, 108, 46, 116, 101, 101], 7),
  (35, [103, 108, 111, 98, 97, 108, 46, 103, 101, 116], 8),
  (36, [103, 108, 111, 98, 97, 108, 46, 115, 101, 116], 8),
  (37, [116, 97, 98, 108, 101, 46, 103, 101, 116], 9),
  (38, [116, 97, 98, 108, 101, 46, 115, 101, 116], 9)]
def acc : List R := [(40, [105, 51, 50, 46, 108, 111, 97, 100], 17),
  (41, [105, 54, 52, 46, 108, 111, 97, 100], 17),
  (44, [105, 51, 50, 46, 108, 111, 97, 100, 56, 95, 115], 17),
  (45, [105, 51, 50, 46, 108, 111, 97, 100, 56, 95, 117], 17),
  (46, [105, 51, 50, 46, 108, 111, 97, 100, 49, 54, 95, 115], 17),
  (47, [105, 51, 50, 46, 108, 111, 97, 100, 49, 54, 95, 117], 17),
  (48, [105, 54, 52, 46, 108, 111, 97, 100, 56, 95, 115], 17),
  (49, [105, 54, 52, 46, 108, 111, 97, 100, 56, 95, 117], 17),
  (50, [105, 54, 52, 46, 108, 111, 97, 100, 49, 54, 95, 115], 17),
  (51, [105, 54, 52, 46, 108, 111, 97, 100, 49, 54, 95, 117], 17),
  (52, [105, 54, 52, 46, 108, 111, 97, 100, 51, 50, 95, 115], 17),
  (53, [105, 54, 52, 46, 108, 111, 97, 100, 51, 50, 95, 117], 17),
  (54, [105, 51, 50, 46, 115, 116, 111, 114, 101], 17),
  (55, [105, 54, 52, 46, 115, 116, 111, 114, 101], 17),
  (58, [105, 51, 50, 46, 115, 116, 111, 114, 101, 56], 17),
  (59, [105, 51, 50, 46, 115, 116, 111, 114, 101, 49, 54], 17),
  (60, [105, 54, 52, 46, 115, 116, 111, 114, 101, 56], 17),
  (61, [105, 54, 52, 46, 115, 116, 111, 114, 101, 49, 54], 17),
  (62, [105, 54, 52, 46, 115, 116, 111, 114, 101, 51, 50], 17),
  (63, [109, 101, 109, 111, 114, 121, 46, 115, 105, 122, 101], 13),
  (64, [109, 101, 109, 111, 114, 121, 46, 103, 114, 111, 119], 13),
  (65, [105, 51, 50, 46, 99, 111, 110, 115, 116], 18),
  (66, [105, 54, 52, 46, 99, 111, 110, 115, 116], 19)]
def fin : List R := [(208, [114, 101, 102, 46, 110, 117, 108, 108], 20),
  (209, [114, 101, 102, 46, 105, 115, 95, 110, 117, 108, 108], 0),
  (210, [114, 101, 102, 46, 102, 117, 110, 99], 4),
  (64520, [109, 101, 109, 111, 114, 121, 46, 105, 110, 105, 116], 15),
  (64521, [100, 97, 116, 97, 46, 100, 114, 111, 112], 16),
  (64522, [109, 101, 109, 111, 114, 121, 46, 99, 111, 112, 121], 14),
  (64523, [109, 101, 109, 111, 114, 121, 46, 102, 105, 108, 108], 13),
  (64524, [116, 97, 98, 108, 101, 46, 105, 110, 105, 116], 11),
  (64525, [101, 108, 101, 109, 46, 100, 114, 111, 112], 12),
  (64526, [116, 97, 98, 108, 101, 46, 99, 111, 112, 121], 10),
  (64527, [116, 97, 98, 108, 101, 46, 103, 114, 111, 119], 9),
  (64528, [116, 97, 98, 108, 101, 46, 115, 105, 122, 101], 9),
  (64529, [116, 97, 98, 108, 101, 46, 102, 105, 108, 108], 9)]
def mid : List R := [(167, [105, 51, 50, 46, 119, 114, 97, 112, 95, 105, 54, 52], 0),
  (172, [105, 54, 52, 46, 101, 120, 116, 101, 110, 100, 95, 105, 51, 50, 95, 115], 0),
  (173, [105, 54, 52, 46, 101, 120, 116, 101, 110, 100, 95, 105, 51, 50, 95, 117], 0)]
def cmps : List (List UInt8) := [[101, 113, 122], [101, 113], [110, 101], [108, 116, 95, 115], [108, 116, 95, 117], [103, 116, 95, 115], [103, 116, 95, 117], [108, 101, 95, 115], [108, 101, 95, 117], [103, 101, 95, 115], [103, 101, 95, 117]]
def twos : List (List UInt8) := [[99, 108, 122], [99, 116, 122], [112, 111, 112, 99, 110, 116], [97, 100, 100], [115, 117, 98], [109, 117, 108], [100, 105, 118, 95, 115], [100, 105, 118, 95, 117], [114, 101, 109, 95, 115], [114, 101, 109, 95, 117], [97, 110, 100], [111, 114], [120, 111, 114], [115, 104, 108], [115, 104, 114, 95, 115], [115, 104, 114, 95, 117], [114, 111, 116, 108], [114, 111, 116, 114]]
def exA : List (List UInt8) := [[101, 120, 116, 101, 110, 100, 56, 95, 115], [101, 120, 116, 101, 110, 100, 49, 54, 95, 115]]
def exB : List (List UInt8) := [[101, 120, 116, 101, 110, 100, 56, 95, 115], [101, 120, 116, 101, 110, 100, 49, 54, 95, 115], [101, 120, 116, 101, 110, 100, 51, 50, 95, 115]]
def i32 : List UInt8 := [105, 51, 50]
def i64 : List UInt8 := [105, 54, 52]
def nums (first : Int) (typ : List UInt8) : List (List UInt8) → List R
  | [] => []
  | s :: l => (first, typ ++ [46] ++ s, 0) :: nums (first + 1) typ l
theorem nums_len (first : Int) (typ : List UInt8) (l : List (List UInt8)) : (nums first typ l).length = l.length := by
  induction l generalizing first with
  | nil => rfl
  | cons s l ih => rw [nums, List.length_cons, ih, List.length_cons]
theorem nums_snoc (typ s : List UInt8) (l : List (List UInt8)) (first : Int) : nums first typ (l ++ [s]) = nums first typ l ++ [(first + l.length, typ ++ [46] ++ s, 0)] := by
  induction l generalizing first with
  | nil => simp [nums]
  | cons t l ih => rw [List.cons_append, nums, nums, ih, List.cons_append, List.length_cons]; simp; omega
def refRows : List R := ctl ++ acc ++ nums 69 i32 cmps ++ nums 80 i64 cmps ++ nums 103 i32 twos ++ nums 121 i64 twos ++ mid ++ nums 192 i32 exA ++ nums 194 i64 exB ++ fin
abbrev O := Int × List UInt8 × List UInt8
def ourRows : List O := [(0, [], [117, 110, 114, 101, 97, 99, 104, 97, 98, 108, 101, 32, 110, 111, 112, 32, 98, 108, 111, 99, 107, 32, 108, 111, 111, 112, 32, 105, 102, 32, 101, 108, 115, 101]),
  (11, [], [101, 110, 100, 32, 98, 114, 32, 98, 114, 95, 105, 102, 32, 98, 114, 95, 116, 97, 98, 108, 101, 32, 114, 101, 116, 117, 114, 110, 32, 99, 97, 108, 108, 32, 99, 97, 108, 108, 95, 105, 110, 100, 105, 114, 101, 99, 116]),
  (26, [], [100, 114, 111, 112, 32, 115, 101, 108, 101, 99, 116, 32, 115, 101, 108, 101, 99, 116]),
  (32, [108, 111, 99, 97, 108, 46], [103, 101, 116, 32, 115, 101, 116, 32, 116, 101, 101]),
  (35, [103, 108, 111, 98, 97, 108, 46], [103, 101, 116, 32, 115, 101, 116]),
  (37, [116, 97, 98, 108, 101, 46], [103, 101, 116, 32, 115, 101, 116]),
  (40, [], [105, 51, 50, 46, 108, 111, 97, 100, 32, 105, 54, 52, 46, 108, 111, 97, 100]),
  (44, [105, 51, 50, 46], [108, 111, 97, 100, 56, 95, 115, 32, 108, 111, 97, 100, 56, 95, 117, 32, 108, 111, 97, 100, 49, 54, 95, 115, 32, 108, 111, 97, 100, 49, 54, 95, 117]),
  (48, [105, 54, 52, 46], [108, 111, 97, 100, 56, 95, 115, 32, 108, 111, 97, 100, 56, 95, 117, 32, 108, 111, 97, 100, 49, 54, 95, 115, 32, 108, 111, 97, 100, 49, 54, 95, 117, 32, 108, 111, 97, 100, 51, 50, 95, 115, 32, 108, 111, 97, 100, 51, 50, 95, 117]),
  (54, [], [105, 51, 50, 46, 115, 116, 111, 114, 101, 32, 105, 54, 52, 46, 115, 116, 111, 114, 101]),
  (58, [105, 51, 50, 46], [115, 116, 111, 114, 101, 56, 32, 115, 116, 111, 114, 101, 49, 54]),
  (60, [105, 54, 52, 46], [115, 116, 111, 114, 101, 56, 32, 115, 116, 111, 114, 101, 49, 54, 32, 115, 116, 111, 114, 101, 51, 50]),
  (63, [109, 101, 109, 111, 114, 121, 46], [115, 105, 122, 101, 32, 103, 114, 111, 119]),
  (65, [], [105, 51, 50, 46, 99, 111, 110, 115, 116, 32, 105, 54, 52, 46, 99, 111, 110, 115, 116]),
  (69, [105, 51, 50, 46], [101, 113, 122, 32, 101, 113, 32, 110, 101, 32, 108, 116, 95, 115, 32, 108, 116, 95, 117, 32, 103, 116, 95, 115, 32, 103, 116, 95, 117, 32, 108, 101, 95, 115, 32, 108, 101, 95, 117, 32, 103, 101, 95, 115, 32, 103, 101, 95, 117]),
  (80, [105, 54, 52, 46], [101, 113, 122, 32, 101, 113, 32, 110, 101, 32, 108, 116, 95, 115, 32, 108, 116, 95, 117, 32, 103, 116, 95, 115, 32, 103, 116, 95, 117, 32, 108, 101, 95, 115, 32, 108, 101, 95, 117, 32, 103, 101, 95, 115, 32, 103, 101, 95, 117]),
  (103, [105, 51, 50, 46], [99, 108, 122, 32, 99, 116, 122, 32, 112, 111, 112, 99, 110, 116, 32, 97, 100, 100, 32, 115, 117, 98, 32, 109, 117, 108, 32, 100, 105, 118, 95, 115, 32, 100, 105, 118, 95, 117, 32, 114, 101, 109, 95, 115, 32, 114, 101, 109, 95, 117, 32, 97, 110, 100, 32, 111, 114, 32, 120, 111, 114, 32, 115, 104, 108, 32, 115, 104, 114, 95, 115, 32, 115, 104, 114, 95, 117, 32, 114, 111, 116, 108, 32, 114, 111, 116, 114]),
  (121, [105, 54, 52, 46], [99, 108, 122, 32, 99, 116, 122, 32, 112, 111, 112, 99, 110, 116, 32, 97, 100, 100, 32, 115, 117, 98, 32, 109, 117, 108, 32, 100, 105, 118, 95, 115, 32, 100, 105, 118, 95, 117, 32, 114, 101, 109, 95, 115, 32, 114, 101, 109, 95, 117, 32, 97, 110, 100, 32, 111, 114, 32, 120, 111, 114, 32, 115, 104, 108, 32, 115, 104, 114, 95, 115, 32, 115, 104, 114, 95, 117, 32, 114, 111, 116, 108, 32, 114, 111, 116, 114]),
  (167, [], [105, 51, 50, 46, 119, 114, 97, 112, 95, 105, 54, 52]),
  (172, [105, 54, 52, 46], [101, 120, 116, 101, 110, 100, 95, 105, 51, 50, 95, 115, 32, 101, 120, 116, 101, 110, 100, 95, 105, 51, 50, 95, 117]),
  (192, [105, 51, 50, 46], [101, 120, 116, 101, 110, 100, 56, 95, 115, 32, 101, 120, 116, 101, 110, 100, 49, 54, 95, 115]),
  (194, [105, 54, 52, 46], [101, 120, 116, 101, 110, 100, 56, 95, 115, 32, 101, 120, 116, 101, 110, 100, 49, 54, 95, 115, 32, 101, 120, 116, 101, 110, 100, 51, 50, 95, 115]),
  (208, [114, 101, 102, 46], [110, 117, 108, 108, 32, 105, 115, 95, 110, 117, 108, 108, 32, 102, 117, 110, 99]),
  (64520, [], [109, 101, 109, 111, 114, 121, 46, 105, 110, 105, 116, 32, 100, 97, 116, 97, 46, 100, 114, 111, 112, 32, 109, 101, 109, 111, 114, 121, 46, 99, 111, 112, 121, 32, 109, 101, 109, 111, 114, 121, 46, 102, 105, 108, 108, 32, 116, 97, 98, 108, 101, 46, 105, 110, 105, 116, 32, 101, 108, 101, 109, 46, 100, 114, 111, 112, 32, 116, 97, 98, 108, 101, 46, 99, 111, 112, 121, 32, 116, 97, 98, 108, 101, 46, 103, 114, 111, 119, 32, 116, 97, 98, 108, 101, 46, 115, 105, 122, 101, 32, 116, 97, 98, 108, 101, 46, 102, 105, 108, 108])]
def spread (first : Int) (head : List UInt8) : List (List UInt8) → List (Int × List UInt8)
  | [] => []
  | s :: l => (first, head ++ s) :: spread (first + 1) head l
theorem spread_len (first : Int) (head : List UInt8) (l : List (List UInt8)) : (spread first head l).length = l.length := by
  induction l generalizing first with
  | nil => rfl
  | cons s l ih => rw [spread, List.length_cons, ih, List.length_cons]
def rowOps (r : O) : List (Int × List UInt8) := spread r.1 r.2.1 (fieldsD r.2.2)
def all : List (Int × List UInt8) := ourRows.flatMap rowOps
set_option maxRecDepth 100000 in
theorem all_ref : all = refRows.map fun r => (r.1, r.2.1) := by decide +kernel
def look (op : Int) : List (Int × List UInt8) → Option (List UInt8)
  | [] => none
  | r :: l => if r.1 = op then some r.2 else look op l
def seek (s : List UInt8) : List (Int × List UInt8) → Option Int
  | [] => none
  | r :: l => if r.2 = s then some r.1 else seek s l
def name (op : Int) : List UInt8 := (look op all).getD []
def known (op : Int) : Bool := (look op all).isSome
def find (s : List UInt8) : Int × Bool := match seek s all with | some op => (op, true) | none => (0, false)
theorem look_app (op : Int) (a b : List (Int × List UInt8)) : look op (a ++ b) = (look op a).or (look op b) := by
  induction a with
  | nil => simp [look]
  | cons r a ih => rw [List.cons_append, look, look]; split <;> simp [ih]
theorem seek_app (s : List UInt8) (a b : List (Int × List UInt8)) : seek s (a ++ b) = (seek s a).or (seek s b) := by
  induction a with
  | nil => simp [seek]
  | cons r a ih => rw [List.cons_append, seek, seek]; split <;> simp [ih]
end Go.Proofs.YtadnfekogmjieaaGreatDoor.Opc
set_option linter.unusedVariables false
set_option linter.unusedSimpArgs false
namespace Go.Proofs.YtadnfekogmjieaaGreatDoor
open Go.RowKit

theorem at_code {F : World → Prop} {P : Program} {c : Code} {Q : Exit → Act → World → Prop} {a : Act} {Wx : World} (hf : F Wx) (h : ∀ w, F w → Code.wp P c Q a w) : Code.wp P c Q a Wx := h _ hf
theorem below_drewN (W : World) (q : Nat) : Below W.heap.size W (W.drewN q) := ⟨rfl, rfl, rfl, Nat.le_refl _, fun _ _ => rfl⟩
def enc5 (r : Opc.R) : List Value := [.int .i64 r.1, .string ⟨r.2.1.toArray⟩, .int .i64 r.2.2]
def encS (s : List UInt8) : List Value := [.string ⟨s.toArray⟩]
theorem enc5_len (r : Opc.R) : (enc5 r).length = 3 := rfl
theorem encS_len (s : List UInt8) : (encS s).length = 1 := rfl
theorem enc5_one (r : Opc.R) : ∀ u ∈ enc5 r, u.oneCell' = true := by simp [enc5, Value.oneCell']
theorem encS_one (s : List UInt8) : ∀ u ∈ encS s, u.oneCell' = true := by simp [encS, Value.oneCell']
theorem info_row5 : (Tryz.prog.info? 194).map (fun i => (i.zero, i.size, i.bytes)) = some (some (.agg #[.int .i64 0, .string ByteArray.empty, .int .i64 0]), 3, 32) := by kernel_rfl
theorem info_string : (Tryz.prog.info? 9).map (fun i => (i.zero, i.size, i.bytes)) = some (some (.string ByteArray.empty), 1, 16) := by kernel_rfl
theorem lit_own {α : Type} {enc : α → List Value} {k n : Nat} {e : TypeId} {l : List α} {cs : Array Value} (w : World) (hcs : cs.toList = l.flatMap enc) (hk : ∀ x, (enc x).length = k) (hn : l.length = n) (hm : n ≤ 1000000) :
    (w.alloc (.cells cs e)).ownsRow w.heap.size e k (.slice (some ⟨w.heap.size, 0, none⟩) n n) n (l.flatMap enc) := by
  have := World.ownsRow_lit (base := w.heap.size) (e := e) (size := k) w cs n (Nat.le_refl _) (by unfold maxLen; omega) (by rw [← Array.length_toList, hcs, flat_len hk, hn])
  rw [hcs] at this
  exact this
set_option maxHeartbeats 4000000 in
set_option maxRecDepth 100000 in
theorem rctl_any (w : World) : Calls Tryz.prog 187 #[] w fun e w' => (∃ A c, e = .returned (.slice A 23 c) ∧ w'.ownsRow w.heap.size 194 3 (.slice A 23 c) 23 (Opc.ctl.flatMap enc5)) ∧ Below w.heap.size w w' := by
  go_enter Tryz.func187, Tryz.ntmps187
  go_wp2
  go_ret
  exact ⟨⟨_, _, rfl, lit_own w (by kernel_rfl) enc5_len (by kernel_rfl) (by omega)⟩, (Below.refl _ _).alloc (Nat.le_refl _) _⟩
set_option maxHeartbeats 4000000 in
set_option maxRecDepth 100000 in
theorem racc_any (w : World) : Calls Tryz.prog 188 #[] w fun e w' => (∃ A c, e = .returned (.slice A 23 c) ∧ w'.ownsRow w.heap.size 194 3 (.slice A 23 c) 23 (Opc.acc.flatMap enc5)) ∧ Below w.heap.size w w' := by
  go_enter Tryz.func188, Tryz.ntmps188
  go_wp2
  go_ret
  exact ⟨⟨_, _, rfl, lit_own w (by kernel_rfl) enc5_len (by kernel_rfl) (by omega)⟩, (Below.refl _ _).alloc (Nat.le_refl _) _⟩
set_option maxHeartbeats 4000000 in
set_option maxRecDepth 100000 in
theorem rfin_any (w : World) : Calls Tryz.prog 192 #[] w fun e w' => (∃ A c, e = .returned (.slice A 13 c) ∧ w'.ownsRow w.heap.size 194 3 (.slice A 13 c) 13 (Opc.fin.flatMap enc5)) ∧ Below w.heap.size w w' := by
  go_enter Tryz.func192, Tryz.ntmps192
  go_wp2
  go_ret
  exact ⟨⟨_, _, rfl, lit_own w (by kernel_rfl) enc5_len (by kernel_rfl) (by omega)⟩, (Below.refl _ _).alloc (Nat.le_refl _) _⟩
set_option maxHeartbeats 4000000 in
set_option maxRecDepth 100000 in
theorem rcmps_any (w : World) : Calls Tryz.prog 190 #[] w fun e w' => (∃ A c, e = .returned (.slice A 11 c) ∧ RdS w' w'.heap.size A 1 encS Opc.cmps) ∧ Below w.heap.size w w' := by
  go_enter Tryz.func190, Tryz.ntmps190
  go_wp2
  go_ret
  exact ⟨⟨_, _, rfl, block_rds encS_len (by kernel_rfl) (heap_alloc_new w _)⟩, (Below.refl _ _).alloc (Nat.le_refl _) _⟩
set_option maxHeartbeats 4000000 in
set_option maxRecDepth 100000 in
theorem rtwos_any (w : World) : Calls Tryz.prog 191 #[] w fun e w' => (∃ A c, e = .returned (.slice A 18 c) ∧ RdS w' w'.heap.size A 1 encS Opc.twos) ∧ Below w.heap.size w w' := by
  go_enter Tryz.func191, Tryz.ntmps191
  go_wp2
  go_ret
  exact ⟨⟨_, _, rfl, block_rds encS_len (by kernel_rfl) (heap_alloc_new w _)⟩, (Below.refl _ _).alloc (Nat.le_refl _) _⟩
end Go.Proofs.YtadnfekogmjieaaGreatDoor
set_option linter.unusedVariables false
set_option linter.unusedSimpArgs false
namespace Go.Proofs.YtadnfekogmjieaaGreatDoor
open Go.RowKit

set_option maxHeartbeats 8000000 in
set_option maxRecDepth 100000 in
theorem rnums_any (first : Int) (typ : List UInt8) (A1 : Option Addr) (c1 n1 : Nat) (l : List (List UInt8)) (w : World) (h1 : RdS w w.heap.size A1 1 encS l) (hn : l.length = n1) (l1 : l.length ≤ 1000) (h0 : 0 ≤ first) (hf : first ≤ 1000000) (ht : typ.length ≤ 100) (hs : ∀ s ∈ l, s.length ≤ 1000) :
    Calls Tryz.prog 189 #[.int .i64 first, .string ⟨typ.toArray⟩, .slice A1 n1 c1] w fun e w' => (∃ A c, e = .returned (.slice A n1 c) ∧ w'.ownsRow w.heap.size 194 3 (.slice A n1 c) n1 ((Opc.nums first typ l).flatMap enc5)) ∧ Below w.heap.size w w' := by
  obtain ⟨i0, hi0, hz0, hz1, hz2⟩ := info_parts info_row5
  subst hn
  have HS := Lib.hid hs
  clear hs
  go_enter Tryz.func189, Tryz.ntmps189
  go_wp2
  go_loopw [7, 8] (fun ov iv wr => ∃ (i : Nat) (A : Option Addr) (c : Nat), ov = .slice A i c ∧ iv = .int .i64 (i : Int) ∧ i ≤ l.length ∧ RdS wr w.heap.size A1 1 encS l ∧ wr.ownsRow w.heap.size 194 3 (.slice A i c) i ((Opc.nums first typ (l.take i)).flatMap enc5) ∧ Below w.heap.size w wr) (fun _ iv _ => l.length - (intOf iv).toNat)
  case atStart => exact ⟨0, none, 0, rfl, rfl, by omega, h1, World.ownsRow_nil _ _ _ _, Below.refl _ _⟩
  case round =>
    obtain ⟨i, A, c, rfl, rfl, hi, k1, hown, hB⟩ := hrel
    by_cases hia : i < l.length
    · obtain ⟨ga, oa, rfl, hb1, e1⟩ := k1.get hia
      have ht2 : l.take (i + 1) = l.take i ++ [l[i]] := List.take_succ_eq_append_getElem hia
      have hss := HS.out l[i] (List.getElem_mem _)
      have hnl : (Opc.nums first typ (l.take i)).length = i := by rw [Opc.nums_len]; simp; omega
      obtain ⟨s, hv⟩ : ∃ v, l[i] = v := ⟨_, rfl⟩
      rw [hv] at e1 ht2 hss
      have f0 := e1 0 _ rfl
      rw [Nat.add_zero, Nat.mul_one] at f0
      have x0 : (i : Int) < (l.length : Int) := by omega
      have x2 : (0 : Int) ≤ (i : Int) := by omega
      have x3 : decide (i < l.length) = true := by simpa using hia
      have hsz := hB.size
      have w1 : IntKind.i64.wrap (first + (i : Int)) = first + (i : Int) := by rw [IntKind.wrap_i64]; omega
      have z1 : (ByteArray.mk typ.toArray).size = typ.length := by simp [ByteArray.size]
      have K1 := Lib.hid k1
      have HSN : Hid ((Opc.nums first typ (l.take (i + 1))).flatMap enc5 = (Opc.nums first typ (l.take i)).flatMap enc5 ++ (enc5 (first + (i : Int), typ ++ [46] ++ s, 0))) := Lib.hid (by
        rw [ht2, Opc.nums_snoc, List.flatMap_append]
        have : (l.take i).length = i := by simp; omega
        rw [this]; simp)
      clear k1 e1 hv ht2
      have hM : ∀ W : World, Reads (W.alloc (.cells #[.int .i64 (first + (i : Int)), .string ⟨(typ ++ [46] ++ s).toArray⟩, .int .i64 0] 194)) (W.alloc (.cells #[.int .i64 (first + (i : Int)), .string ⟨(typ ++ [46] ++ s).toArray⟩, .int .i64 0] 194)).heap.size 3 (some ⟨W.heap.size, 0, none⟩) 1 ([((first + (i : Int), typ ++ [46] ++ s, 0) : Opc.R)].flatMap enc5) := fun W => block_reads rfl (heap_alloc_new W _)
      have e3 : (ByteArray.mk typ.toArray ++ ByteArray.mk #[46] ++ ByteArray.mk s.toArray) = ByteArray.mk (typ ++ [46] ++ s).toArray := by apply ByteArray.ext; simp
      have HM := Lib.hid hM
      have HE := Lib.hid e3
      clear hM e3
      go_wp2_with (at_builtin; rw [HE.out]; refine app_rs Tryz.underlying206 hi0 hz0 hz1 hz2 rfl (by omega) enc5_len enc5_one _ rfl (.tmp 15) (.tmp 27) rfl w.heap.size _ i _ (by rfl) (hown.alloc _) [((first + (i : Int), typ ++ [46] ++ s, 0) : Opc.R)] 1 1 _ rfl (by rfl) (HM.out wr) (by omega) (by omega) (by simp; omega) ?_; intro A' c' w2 hown2 hg; have HB2 := Lib.hid ((hB.alloc hsz _).trans (below_own (hown.alloc _) hg (by simp; omega))); have HB3 := Lib.hid (((Below.refl w.heap.size wr).alloc hsz _).trans (below_own (hown.alloc _) hg (by simp; omega))))
      go_round
      case rel => exact ⟨i + 1, A', c', rfl, by go_num, by omega, K1.out.below HB3.out, by rw [HSN.out]; simpa [List.flatMap_append] using hown2, HB2.out⟩
      case measure => simp [intOf]; omega
    · have hi2 : i = l.length := by omega
      subst hi2
      rw [List.take_length] at hown
      have x3 : decide (l.length < l.length) = false := by simp
      clear k1
      go_wp2
      go_ret
      exact ⟨⟨A, c, rfl, hown⟩, hB⟩

set_option maxHeartbeats 16000000 in
set_option maxRecDepth 100000 in
theorem rrows_any (w : World) : Calls Tryz.prog 140 #[] w fun e w' => (∃ A c, e = .returned (.slice A 125 c) ∧ RdS w' w'.heap.size A 3 enc5 Opc.refRows) ∧ Below w.heap.size w w' := by
  obtain ⟨i0, hi0, hz0, hz1, hz2⟩ := info_parts info_row5
  go_enter Tryz.func140, Tryz.ntmps140
  go_upto_region 2 with (first
    | (go_at_call 187; refine (rctl_any _).mono ?_; rintro e w1 ⟨⟨A1, c1, rfl, hown⟩, hb⟩; have hsz := hb.size)
    | (go_at_call 188; refine (racc_any _).mono ?_; rintro e w2 ⟨⟨A2, c2, rfl, hown2⟩, hb2⟩; have hb := hb.trans (hb2.mono hsz); have hown := own_below hown hb2 (Nat.le_refl _); have hsz := hb.size; have hrd := (own_rds enc5_len (by omega) hown2).reads enc5_len)
    | (at_builtin; refine app_rs Tryz.underlying206 hi0 hz0 hz1 hz2 rfl (by omega) enc5_len enc5_one _ rfl (.tmp 2) (.tmp 3) rfl w.heap.size _ 23 Opc.ctl (by rfl) hown Opc.acc 23 _ _ (by kernel_rfl) (by rfl) hrd (by omega) (by omega) hsz ?_; intro A' c' wn hown' hg; have hbn := hb.trans (below_own hown hg hsz)))
  refine at_code (F := fun W => W.ownsRow w.heap.size 194 3 (.slice A' 46 c') 46 ((Opc.ctl ++ Opc.acc).flatMap enc5) ∧ Below w.heap.size w W) ⟨hown', hbn⟩ ?_
  clear hown' hbn hg
  (try clear hb hb2 hown hown2 hsz hrd)
  (try clear hb hb2 hb3 hown hsz hrd hrs hq hown3)
  revert A' c'; intro A c
  rintro w0 ⟨hown, hb⟩
  have hsz := hb.size
  go_upto_region 3 with (first
    | (go_at_call 190; refine (rcmps_any _).mono ?_; rintro e w1 ⟨⟨A1, c1, rfl, hrs⟩, hq⟩; have hown := own_below hown hq (Nat.le_refl _); have hb := hb.trans (hq.mono hsz); have hsz := hb.size)
    | (go_at_call 189; refine (rnums_any 69 Opc.i32 _ _ 11 Opc.cmps _ hrs (by kernel_rfl) (by decide) (by omega) (by omega) (by decide) (by decide)).mono ?_; rintro e w2 ⟨⟨A2, c2, rfl, hown3⟩, hb3⟩; have hown := own_below hown hb3 (Nat.le_refl _); have hb := hb.trans (hb3.mono hsz); have hsz := hb.size; have hrd := (own_rds enc5_len (by omega) hown3).reads enc5_len)
    | (at_builtin; refine app_rs Tryz.underlying206 hi0 hz0 hz1 hz2 rfl (by omega) enc5_len enc5_one _ rfl (.tmp 5) (.tmp 7) rfl w.heap.size _ 46 (Opc.ctl ++ Opc.acc) (by rfl) hown (Opc.nums 69 Opc.i32 Opc.cmps) 11 _ _ (by kernel_rfl) (by rfl) hrd (by omega) (by omega) hsz ?_; intro A' c' wn hown' hg; have hbn := hb.trans (below_own hown hg hsz)))
  refine at_code (F := fun W => W.ownsRow w.heap.size 194 3 (.slice A' 57 c') 57 (((Opc.ctl ++ Opc.acc) ++ Opc.nums 69 Opc.i32 Opc.cmps).flatMap enc5) ∧ Below w.heap.size w W) ⟨hown', hbn⟩ ?_
  clear hown' hbn hg
  (try clear hb hb2 hown hown2 hsz hrd)
  (try clear hb hb2 hb3 hown hsz hrd hrs hq hown3)
  revert A' c'; intro A c
  rintro w0 ⟨hown, hb⟩
  have hsz := hb.size
  go_upto_region 4 with (first
    | (go_at_call 190; refine (rcmps_any _).mono ?_; rintro e w1 ⟨⟨A1, c1, rfl, hrs⟩, hq⟩; have hown := own_below hown hq (Nat.le_refl _); have hb := hb.trans (hq.mono hsz); have hsz := hb.size)
    | (go_at_call 189; refine (rnums_any 80 Opc.i64 _ _ 11 Opc.cmps _ hrs (by kernel_rfl) (by decide) (by omega) (by omega) (by decide) (by decide)).mono ?_; rintro e w2 ⟨⟨A2, c2, rfl, hown3⟩, hb3⟩; have hown := own_below hown hb3 (Nat.le_refl _); have hb := hb.trans (hb3.mono hsz); have hsz := hb.size; have hrd := (own_rds enc5_len (by omega) hown3).reads enc5_len)
    | (at_builtin; refine app_rs Tryz.underlying206 hi0 hz0 hz1 hz2 rfl (by omega) enc5_len enc5_one _ rfl (.tmp 9) (.tmp 11) rfl w.heap.size _ 57 ((Opc.ctl ++ Opc.acc) ++ Opc.nums 69 Opc.i32 Opc.cmps) (by rfl) hown (Opc.nums 80 Opc.i64 Opc.cmps) 11 _ _ (by kernel_rfl) (by rfl) hrd (by omega) (by omega) hsz ?_; intro A' c' wn hown' hg; have hbn := hb.trans (below_own hown hg hsz)))
  refine at_code (F := fun W => W.ownsRow w.heap.size 194 3 (.slice A' 68 c') 68 ((((Opc.ctl ++ Opc.acc) ++ Opc.nums 69 Opc.i32 Opc.cmps) ++ Opc.nums 80 Opc.i64 Opc.cmps).flatMap enc5) ∧ Below w.heap.size w W) ⟨hown', hbn⟩ ?_
  clear hown' hbn hg
  (try clear hb hb2 hown hown2 hsz hrd)
  (try clear hb hb2 hb3 hown hsz hrd hrs hq hown3)
  revert A' c'; intro A c
  rintro w0 ⟨hown, hb⟩
  have hsz := hb.size
  go_upto_region 5 with (first
    | (go_at_call 191; refine (rtwos_any _).mono ?_; rintro e w1 ⟨⟨A1, c1, rfl, hrs⟩, hq⟩; have hown := own_below hown hq (Nat.le_refl _); have hb := hb.trans (hq.mono hsz); have hsz := hb.size)
    | (go_at_call 189; refine (rnums_any 103 Opc.i32 _ _ 18 Opc.twos _ hrs (by kernel_rfl) (by decide) (by omega) (by omega) (by decide) (by decide)).mono ?_; rintro e w2 ⟨⟨A2, c2, rfl, hown3⟩, hb3⟩; have hown := own_below hown hb3 (Nat.le_refl _); have hb := hb.trans (hb3.mono hsz); have hsz := hb.size; have hrd := (own_rds enc5_len (by omega) hown3).reads enc5_len)
    | (at_builtin; refine app_rs Tryz.underlying206 hi0 hz0 hz1 hz2 rfl (by omega) enc5_len enc5_one _ rfl (.tmp 13) (.tmp 15) rfl w.heap.size _ 68 (((Opc.ctl ++ Opc.acc) ++ Opc.nums 69 Opc.i32 Opc.cmps) ++ Opc.nums 80 Opc.i64 Opc.cmps) (by rfl) hown (Opc.nums 103 Opc.i32 Opc.twos) 18 _ _ (by kernel_rfl) (by rfl) hrd (by omega) (by omega) hsz ?_; intro A' c' wn hown' hg; have hbn := hb.trans (below_own hown hg hsz)))
  refine at_code (F := fun W => W.ownsRow w.heap.size 194 3 (.slice A' 86 c') 86 (((((Opc.ctl ++ Opc.acc) ++ Opc.nums 69 Opc.i32 Opc.cmps) ++ Opc.nums 80 Opc.i64 Opc.cmps) ++ Opc.nums 103 Opc.i32 Opc.twos).flatMap enc5) ∧ Below w.heap.size w W) ⟨hown', hbn⟩ ?_
  clear hown' hbn hg
  (try clear hb hb2 hown hown2 hsz hrd)
  (try clear hb hb2 hb3 hown hsz hrd hrs hq hown3)
  revert A' c'; intro A c
  rintro w0 ⟨hown, hb⟩
  have hsz := hb.size
  go_upto_region 6 with (first
    | (go_at_call 191; refine (rtwos_any _).mono ?_; rintro e w1 ⟨⟨A1, c1, rfl, hrs⟩, hq⟩; have hown := own_below hown hq (Nat.le_refl _); have hb := hb.trans (hq.mono hsz); have hsz := hb.size)
    | (go_at_call 189; refine (rnums_any 121 Opc.i64 _ _ 18 Opc.twos _ hrs (by kernel_rfl) (by decide) (by omega) (by omega) (by decide) (by decide)).mono ?_; rintro e w2 ⟨⟨A2, c2, rfl, hown3⟩, hb3⟩; have hown := own_below hown hb3 (Nat.le_refl _); have hb := hb.trans (hb3.mono hsz); have hsz := hb.size; have hrd := (own_rds enc5_len (by omega) hown3).reads enc5_len)
    | (at_builtin; refine app_rs Tryz.underlying206 hi0 hz0 hz1 hz2 rfl (by omega) enc5_len enc5_one _ rfl (.tmp 17) (.tmp 19) rfl w.heap.size _ 86 ((((Opc.ctl ++ Opc.acc) ++ Opc.nums 69 Opc.i32 Opc.cmps) ++ Opc.nums 80 Opc.i64 Opc.cmps) ++ Opc.nums 103 Opc.i32 Opc.twos) (by rfl) hown (Opc.nums 121 Opc.i64 Opc.twos) 18 _ _ (by kernel_rfl) (by rfl) hrd (by omega) (by omega) hsz ?_; intro A' c' wn hown' hg; have hbn := hb.trans (below_own hown hg hsz)))
  refine at_code (F := fun W => W.ownsRow w.heap.size 194 3 (.slice A' 104 c') 104 ((((((Opc.ctl ++ Opc.acc) ++ Opc.nums 69 Opc.i32 Opc.cmps) ++ Opc.nums 80 Opc.i64 Opc.cmps) ++ Opc.nums 103 Opc.i32 Opc.twos) ++ Opc.nums 121 Opc.i64 Opc.twos).flatMap enc5) ∧ Below w.heap.size w W) ⟨hown', hbn⟩ ?_
  clear hown' hbn hg
  (try clear hb hb2 hown hown2 hsz hrd)
  (try clear hb hb2 hb3 hown hsz hrd hrs hq hown3)
  revert A' c'; intro A c
  rintro w0 ⟨hown, hb⟩
  have hsz := hb.size
  have hm6 := block_reads (k := 3) (m := 3) rfl (heap_alloc_new w0 (.cells (Opc.mid.flatMap enc5).toArray 194))
  go_upto_region 7 with (first
    | (at_builtin; refine app_rs Tryz.underlying206 hi0 hz0 hz1 hz2 rfl (by omega) enc5_len enc5_one _ rfl (.tmp 21) (.tmp 25) rfl w.heap.size _ 104 (((((Opc.ctl ++ Opc.acc) ++ Opc.nums 69 Opc.i32 Opc.cmps) ++ Opc.nums 80 Opc.i64 Opc.cmps) ++ Opc.nums 103 Opc.i32 Opc.twos) ++ Opc.nums 121 Opc.i64 Opc.twos) (by rfl) (hown.alloc _) Opc.mid 3 _ _ (by kernel_rfl) (by rfl) hm6 (by omega) (by omega) (by simp; omega) ?_; intro A' c' wn hown' hg; have hbn := (hb.alloc hsz _).trans (below_own (hown.alloc _) hg (by simp; omega))))
  refine at_code (F := fun W => W.ownsRow w.heap.size 194 3 (.slice A' 107 c') 107 (((((((Opc.ctl ++ Opc.acc) ++ Opc.nums 69 Opc.i32 Opc.cmps) ++ Opc.nums 80 Opc.i64 Opc.cmps) ++ Opc.nums 103 Opc.i32 Opc.twos) ++ Opc.nums 121 Opc.i64 Opc.twos) ++ Opc.mid).flatMap enc5) ∧ Below w.heap.size w W) ⟨hown', hbn⟩ ?_
  clear hown' hbn hg
  (try clear hb hb2 hown hown2 hsz hrd)
  (try clear hb hb2 hb3 hown hsz hrd hrs hq hown3)
  (try clear hb hown hsz hm6)
  revert A' c'; intro A c
  rintro w0 ⟨hown, hb⟩
  have hsz := hb.size
  have hrs := block_rds encS_len (l := Opc.exA) rfl (heap_alloc_new w0 (.cells (Opc.exA.flatMap encS).toArray 9))
  have hown := hown.alloc (.cells (Opc.exA.flatMap encS).toArray 9)
  have hb := hb.alloc hsz (.cells (Opc.exA.flatMap encS).toArray 9)
  have hsz := hb.size
  go_upto_region 8 with (first
    | (go_at_call 189; refine (rnums_any 192 Opc.i32 _ _ 2 Opc.exA _ hrs (by kernel_rfl) (by decide) (by omega) (by omega) (by decide) (by decide)).mono ?_; rintro e w2 ⟨⟨A2, c2, rfl, hown3⟩, hb3⟩; have hown := own_below hown hb3 (Nat.le_refl _); have hb := hb.trans (hb3.mono hsz); have hsz := hb.size; have hrd := (own_rds enc5_len (by omega) hown3).reads enc5_len)
    | (at_builtin; refine app_rs Tryz.underlying206 hi0 hz0 hz1 hz2 rfl (by omega) enc5_len enc5_one _ rfl (.tmp 27) (.tmp 29) rfl w.heap.size _ 107 ((((((Opc.ctl ++ Opc.acc) ++ Opc.nums 69 Opc.i32 Opc.cmps) ++ Opc.nums 80 Opc.i64 Opc.cmps) ++ Opc.nums 103 Opc.i32 Opc.twos) ++ Opc.nums 121 Opc.i64 Opc.twos) ++ Opc.mid) (by rfl) hown (Opc.nums 192 Opc.i32 Opc.exA) 2 _ _ (by kernel_rfl) (by rfl) hrd (by omega) (by omega) hsz ?_; intro A' c' wn hown' hg; have hbn := hb.trans (below_own hown hg hsz)))
  refine at_code (F := fun W => W.ownsRow w.heap.size 194 3 (.slice A' 109 c') 109 ((((((((Opc.ctl ++ Opc.acc) ++ Opc.nums 69 Opc.i32 Opc.cmps) ++ Opc.nums 80 Opc.i64 Opc.cmps) ++ Opc.nums 103 Opc.i32 Opc.twos) ++ Opc.nums 121 Opc.i64 Opc.twos) ++ Opc.mid) ++ Opc.nums 192 Opc.i32 Opc.exA).flatMap enc5) ∧ Below w.heap.size w W) ⟨hown', hbn⟩ ?_
  clear hown' hbn hg
  (try clear hb hb2 hown hown2 hsz hrd)
  (try clear hb hb2 hb3 hown hsz hrd hrs hq hown3)
  revert A' c'; intro A c
  rintro w0 ⟨hown, hb⟩
  have hsz := hb.size
  have hrs := block_rds encS_len (l := Opc.exB) rfl (heap_alloc_new w0 (.cells (Opc.exB.flatMap encS).toArray 9))
  have hown := hown.alloc (.cells (Opc.exB.flatMap encS).toArray 9)
  have hb := hb.alloc hsz (.cells (Opc.exB.flatMap encS).toArray 9)
  have hsz := hb.size
  go_upto_region 9 with (first
    | (go_at_call 189; refine (rnums_any 194 Opc.i64 _ _ 3 Opc.exB _ hrs (by kernel_rfl) (by decide) (by omega) (by omega) (by decide) (by decide)).mono ?_; rintro e w2 ⟨⟨A2, c2, rfl, hown3⟩, hb3⟩; have hown := own_below hown hb3 (Nat.le_refl _); have hb := hb.trans (hb3.mono hsz); have hsz := hb.size; have hrd := (own_rds enc5_len (by omega) hown3).reads enc5_len)
    | (at_builtin; refine app_rs Tryz.underlying206 hi0 hz0 hz1 hz2 rfl (by omega) enc5_len enc5_one _ rfl (.tmp 31) (.tmp 33) rfl w.heap.size _ 109 (((((((Opc.ctl ++ Opc.acc) ++ Opc.nums 69 Opc.i32 Opc.cmps) ++ Opc.nums 80 Opc.i64 Opc.cmps) ++ Opc.nums 103 Opc.i32 Opc.twos) ++ Opc.nums 121 Opc.i64 Opc.twos) ++ Opc.mid) ++ Opc.nums 192 Opc.i32 Opc.exA) (by rfl) hown (Opc.nums 194 Opc.i64 Opc.exB) 3 _ _ (by kernel_rfl) (by rfl) hrd (by omega) (by omega) hsz ?_; intro A' c' wn hown' hg; have hbn := hb.trans (below_own hown hg hsz)))
  refine at_code (F := fun W => W.ownsRow w.heap.size 194 3 (.slice A' 112 c') 112 (((((((((Opc.ctl ++ Opc.acc) ++ Opc.nums 69 Opc.i32 Opc.cmps) ++ Opc.nums 80 Opc.i64 Opc.cmps) ++ Opc.nums 103 Opc.i32 Opc.twos) ++ Opc.nums 121 Opc.i64 Opc.twos) ++ Opc.mid) ++ Opc.nums 192 Opc.i32 Opc.exA) ++ Opc.nums 194 Opc.i64 Opc.exB).flatMap enc5) ∧ Below w.heap.size w W) ⟨hown', hbn⟩ ?_
  clear hown' hbn hg
  (try clear hb hb2 hown hown2 hsz hrd)
  (try clear hb hb2 hb3 hown hsz hrd hrs hq hown3)
  revert A' c'; intro A c
  rintro w0 ⟨hown, hb⟩
  have hsz := hb.size
  go_wp2_with (first
    | (go_at_call 192; refine (rfin_any _).mono ?_; rintro e w2 ⟨⟨A2, c2, rfl, hown2⟩, hb2⟩; have hown := own_below hown hb2 (Nat.le_refl _); have hb := hb.trans (hb2.mono hsz); have hsz := hb.size; have hrd := (own_rds enc5_len (by omega) hown2).reads enc5_len)
    | (at_builtin; refine app_rs Tryz.underlying206 hi0 hz0 hz1 hz2 rfl (by omega) enc5_len enc5_one _ rfl (.tmp 35) (.tmp 36) rfl w.heap.size _ 112 ((((((((Opc.ctl ++ Opc.acc) ++ Opc.nums 69 Opc.i32 Opc.cmps) ++ Opc.nums 80 Opc.i64 Opc.cmps) ++ Opc.nums 103 Opc.i32 Opc.twos) ++ Opc.nums 121 Opc.i64 Opc.twos) ++ Opc.mid) ++ Opc.nums 192 Opc.i32 Opc.exA) ++ Opc.nums 194 Opc.i64 Opc.exB) (by rfl) hown Opc.fin 13 _ _ (by kernel_rfl) (by rfl) hrd (by omega) (by omega) hsz ?_; intro A' c' wn hown' hg; have hbn := hb.trans (below_own hown hg hsz)))
  go_ret
  exact ⟨⟨A', c', rfl, own_rds enc5_len (by omega) hown'⟩, hbn⟩
end Go.Proofs.YtadnfekogmjieaaGreatDoor
