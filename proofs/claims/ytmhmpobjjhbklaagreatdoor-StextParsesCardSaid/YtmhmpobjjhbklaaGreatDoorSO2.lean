/-
  Layer 40, the program: readVals, index, readList, readType.
-/
import Derived.Test.YtmhmpobjjhbklaaGreatDoorSO1
set_option linter.unusedVariables false
set_option linter.unusedSimpArgs false
namespace Go.Proofs.YtmhmpobjjhbklaaGreatDoor
namespace St
/-- Names of types, all of them or none. -/
def valsP (ws : List W) : List Int × Bool := if ws.all (fun w => (Ty.find w).2) then (ws.map (fun w => (Ty.find w).1), true) else ([], false)
def listP (s : W) : List Int × Bool := if s = [] then ([], true) else valsP (Lib.split s [44, 32])
end St
open Go.RowKit
open St (InR)
theorem keep_grown {S : Nat → Prop} {W W' : World} {k : Nat} (hg : W.grownBy W' (some k)) (hk : ¬ S k) : Keep S W W' := fun p v hs hc => hg.cell hc (fun e => by injection e with e; exact hk (e ▸ hs))
theorem RdT.mono {α : Type} {w : World} {S S' : Nat → Prop} {A : Option Addr} {k : Nat} {R R' : World → Nat → Nat → α → Prop} {l : List α} (h : RdT w S A k R l) (hS : ∀ g, g < w.heap.size → S g → S' g) (hR : ∀ g o x, R w g o x → R' w g o x) : RdT w S' A k R' l := fun hl => by
  obtain ⟨g, o, e, hs, hg, hc⟩ := h hl
  exact ⟨g, o, e, hS g hg hs, hg, fun i hi => hR _ _ _ (hc i hi)⟩
theorem RdZ.mono {w : World} {S S' : Nat → Prop} {A : Option Addr} {l : List Int} (h : RdZ w S A l) (hS : ∀ g, g < w.heap.size → S g → S' g) : RdZ w S' A l := RdT.mono h hS (fun _ _ _ h => h)
theorem own_rdz {W : World} {base n c : Nat} {A : Option Addr} {l : List Int} {e : TypeId} (h : W.ownsRow base e 1 (.slice A n c) n (l.flatMap encZ)) : RdZ W (fun g => base ≤ g) A l :=
  RdZ.of_rds (own_rds encZ_len (by omega) h) (fun g o e => by subst e; exact (h.lt g rfl).1)
theorem RdZ.on {w w' : World} {S : Nat → Prop} {A : Option Addr} {l : List Int} (h : RdZ w S A l) (hb : Below w.heap.size w w') : RdZ w' S A l := h.keep (Below.keep hb S) hb.size
theorem info_val : (Tryz.prog.info? 51).map (fun i => (i.zero, i.size, i.bytes)) = some (some (.int .i64 0), 1, 8) := by kernel_rfl
theorem one_val (W : World) (z : Int) : Reads (W.alloc (.cells #[.int .i64 z] 51)) (W.alloc (.cells #[.int .i64 z] 51)).heap.size 1 (some ⟨W.heap.size, 0, none⟩) 1 ([z].flatMap encZ) := block_reads (cs := #[.int .i64 z]) rfl (heap_alloc_new W _)
theorem vals_step {w wr w2 : World} {e : TypeId} {k n : Nat} {v : Value} {xs : List Value} {o : Obj} (hown : wr.ownsRow w.heap.size e k v n xs) (hB : Below w.heap.size w wr) (hg : (wr.alloc o).grownBy w2 v.ownBlock) : Below w.heap.size w w2 :=
  (hB.alloc hB.size o).trans (below_own (hown.alloc _) hg (by have := hB.size; simp; omega))

set_option maxHeartbeats 4000000 in
set_option maxRecDepth 100000 in
/-- stext.readVals. -/
theorem sreadVals_any (A1 : Option Addr) (c1 n1 : Nat) (ws : List St.W) (hn : ws.length = n1) (hl : n1 ≤ 1000000) (w : World) (h1 : RdS w w.heap.size A1 1 encS ws) :
    Calls Tryz.prog 67 #[.slice A1 n1 c1] w fun e w' => (∃ A c, e = .returned (.tuple #[.slice A (St.valsP ws).1.length c, .bool (St.valsP ws).2]) ∧ RdZ w' (fun g => w.heap.size ≤ g) A (St.valsP ws).1) ∧ Below w.heap.size w w' := by
  obtain ⟨i0, hi0, hz0, hz1, hz2⟩ := info_parts info_val
  subst hn
  obtain ⟨Z, hZ⟩ : ∃ Z, St.valsP ws = Z := ⟨_, rfl⟩
  rw [hZ]
  have HZ := Lib.hid hZ
  clear hZ
  go_enter Tryz.func67, Tryz.ntmps67
  go_wp2
  go_loopw [4, 11] (fun ov iv wr => ∃ (i : Nat) (A : Option Addr) (c : Nat), ov = .slice A i c ∧ iv = .int .i64 (i : Int) ∧ i ≤ ws.length ∧ Hid ((ws.take i).all (fun w => (Ty.find w).2) = true) ∧ wr.ownsRow w.heap.size 51 1 (.slice A i c) i (((ws.take i).map (fun w => (Ty.find w).1)).flatMap encZ) ∧ Below w.heap.size w wr) (fun _ iv _ => ws.length - (intOf iv).toNat)
  case atStart => exact ⟨0, none, 0, rfl, rfl, by omega, Lib.hid rfl, World.ownsRow_nil _ _ _ _, Below.refl _ _⟩
  case round =>
    obtain ⟨i, A, c, rfl, rfl, hi, hall, hown, hB⟩ := hrel
    by_cases hia : i < ws.length
    · obtain ⟨ga, oa, rfl, hb1, e1⟩ := (h1.below hB).get hia
      have f0 := e1 0 _ rfl
      rw [Nat.add_zero, Nat.mul_one] at f0
      have ht2 : (ws.take (i + 1)).map (fun w => (Ty.find w).1) = (ws.take i).map (fun w => (Ty.find w).1) ++ [(Ty.find ws[i]).1] := by rw [List.take_succ_eq_append_getElem hia, List.map_append]; rfl
      have ht3 : (ws.take (i + 1)).all (fun w => (Ty.find w).2) = (Ty.find ws[i]).2 := by rw [List.take_succ_eq_append_getElem hia, List.all_append, hall.out]; simp
      have ht4 : (Ty.find ws[i]).2 = false → ws.all (fun w => (Ty.find w).2) = false := fun h => by
        rcases ha : ws.all (fun w => (Ty.find w).2) with _ | _
        · rfl
        · have := List.all_eq_true.1 ha ws[i] (List.getElem_mem _)
          rw [h] at this; cases this
      obtain ⟨s, hv⟩ : ∃ v, ws[i] = v := ⟨_, rfl⟩
      rw [hv] at f0 ht2 ht3 ht4
      have HF := Lib.hid (fun W => find_any s W)
      obtain ⟨F, hF⟩ : ∃ F, Ty.find s = F := ⟨_, rfl⟩
      rw [hF] at HF ht2 ht3 ht4
      obtain ⟨z, zb⟩ := F
      dsimp only at HF ht2 ht3 ht4
      have x0 : (i : Int) < (ws.length : Int) := by omega
      have x2 : (0 : Int) ≤ (i : Int) := by omega
      have HT := Lib.hid ht2
      have HT3 := Lib.hid ht3
      have HT4 := Lib.hid ht4
      have HB := Lib.hid hB
      have hsz := hB.size
      clear ht2 ht3 ht4 hv e1 hF hB
      rcases zb with _ | _
      · go_wp2_with (go_at_call 93; refine (HF.out _).mono ?_; rintro e w1 ⟨rfl, rfl⟩)
        go_ret2
        obtain rfl : Z = ([], false) := by rw [← HZ.out]; unfold St.valsP; rw [if_neg]; rw [HT4.out (by simp)]; decide
        exact ⟨⟨none, 0, rfl, RdT.nil_⟩, HB.out⟩
      · go_wp2_with (first
          | (go_at_call 93; refine (HF.out _).mono ?_; rintro e w1 ⟨rfl, rfl⟩)
          | (at_builtin; refine app_rs Tryz.underlying22 hi0 hz0 hz1 hz2 rfl (by omega) encZ_len encZ_one _ rfl (.tmp 22) (.tmp 24) rfl w.heap.size _ i _ (by rfl) (hown.alloc _) [z] 1 1 _ rfl (by rfl) (one_val _ z) (by omega) (by omega) (by simp; omega) ?_; intro A' c' w2 hown2 hg; have HB3 := Lib.hid (vals_step hown HB.out hg); clear hg))
        go_roundw
        case rel => exact ⟨i + 1, A', c', rfl, by go_num, by omega, HT3, by rw [HT.out]; exact hown2, HB3.out⟩
        case measure => simp [intOf]; omega
    · have hi2 : i = ws.length := by omega
      subst hi2
      have x0 : ¬ (ws.length : Int) < (ws.length : Int) := by omega
      rw [List.take_length] at hown hall
      go_wp2
      go_ret2
      obtain rfl : Z = (ws.map (fun w => (Ty.find w).1), true) := by rw [← HZ.out]; unfold St.valsP; rw [if_pos hall.out]
      have hlen : (ws.map (fun w => (Ty.find w).1)).length = ws.length := by simp
      exact ⟨⟨A, ⟨c, by rw [hlen]; rfl⟩, own_rdz hown⟩, hB⟩

set_option maxHeartbeats 4000000 in
set_option maxRecDepth 100000 in
/-- stext.index. -/
theorem sindex_any (t : List UInt8) (ht : t.length ≤ 1000) (L : List (List UInt8)) (hL : Lib.fieldsD t = L) (hLl : L.length ≤ 1000) (s : St.W) (w : World) (G : Glob w) :
    Calls Tryz.prog 96 #[.string ⟨t.toArray⟩, .string ⟨s.toArray⟩] w fun e w' => e = .returned (.int .i64 (St.idx L s)) ∧ Below w.heap.size w w' := by
  have HF := Lib.hid (fun W (G : Glob W) => fields_any t (by omega) W G)
  rw [hL] at HF
  clear hL
  obtain ⟨Z, hZ⟩ : ∃ Z, St.idx L s = Z := ⟨_, rfl⟩
  rw [hZ]
  have HZ : Hid (St.idxFrom s 0 (L.drop 0) = Z) := Lib.hid hZ
  clear hZ
  go_enter Tryz.func96, Tryz.ntmps96
  go_wp2_with (go_at_call 66; refine (HF.out _ G).mono ?_; rintro e w1 ⟨⟨A, rfl, hrd⟩, hb⟩)
  go_loopw [10] (fun iv wr => ∃ (i : Nat), iv = .int .i64 (i : Int) ∧ i ≤ L.length ∧ Hid (St.idxFrom s i (L.drop i) = Z) ∧ wr = w1) (fun iv _ => L.length - (intOf iv).toNat)
  case atStart => exact ⟨0, rfl, by omega, HZ, rfl⟩
  case round =>
    obtain ⟨i, rfl, hi, hz, rfl⟩ := hrel
    by_cases hia : i < L.length
    · obtain ⟨ga, oa, rfl, hb1, e1⟩ := hrd.get hia
      have f0 := e1 0 _ rfl
      rw [Nat.add_zero, Nat.mul_one] at f0
      have hd : L.drop i = L[i] :: L.drop (i + 1) := List.drop_eq_getElem_cons hia
      obtain ⟨u, hv⟩ : ∃ v, L[i] = v := ⟨_, rfl⟩
      rw [hv] at f0 hd
      have hz2 := hz.out
      rw [hd, St.idxFrom] at hz2
      have x0 : (i : Int) < (L.length : Int) := by omega
      have x2 : (0 : Int) ≤ (i : Int) := by omega
      by_cases he : u = s
      · subst he
        rw [if_pos rfl] at hz2
        have HZ2 := Lib.hid hz2
        clear hz hz2 hd hv e1
        go_wp2
        go_ret
        exact ⟨by rw [← HZ2.out]; rfl, hb⟩
      · rw [if_neg he] at hz2
        have HZ2 := Lib.hid hz2
        have hbe := beq_no he
        have hq2 : (u == s) = false := by simpa using he
        clear hz hz2 hd hv e1 he
        go_wp2
        go_roundw
        case rel => exact ⟨i + 1, by go_num, by omega, HZ2, by trivial⟩
        case measure => simp [intOf]; omega
    · have hi2 : i = L.length := by omega
      subst hi2
      have x0 : ¬ (L.length : Int) < (L.length : Int) := by omega
      have hz2 := hz.out
      rw [List.drop_length, St.idxFrom] at hz2
      have HZ2 := Lib.hid hz2
      clear hz hz2
      go_wp2
      go_ret
      exact ⟨by rw [← HZ2.out]; rfl, hb⟩
theorem split_any (s sep : List UInt8) (hs : s.length ≤ 1000000) (h1 : 1 ≤ sep.length) (w : World) (G : Glob w) :
    Calls Tryz.prog 28 #[.string ⟨s.toArray⟩, .string ⟨sep.toArray⟩] w fun e w' => (∃ A, e = .returned (.slice A (Lib.split s sep).length (Lib.split s sep).length) ∧ RdS w' w'.heap.size A 1 encS (Lib.split s sep)) ∧ Below w.heap.size w w' := by
  obtain ⟨m, hm⟩ := G.mx
  have hsz : (ByteArray.mk s.toArray).size = s.length := by simp [ByteArray.size]
  have hsp : (ByteArray.mk sep.toArray).size = sep.length := by simp [ByteArray.size]
  have e2 := Lib.splitB_data ⟨sep.toArray⟩ 0 (Lib.countB ⟨s.toArray⟩ ⟨sep.toArray⟩) ⟨s.toArray⟩
  have e3 : Lib.split s sep = (Lib.splitB ⟨sep.toArray⟩ 0 (Lib.countB ⟨s.toArray⟩ ⟨sep.toArray⟩) ⟨s.toArray⟩).map (·.data.toList) := by rw [e2]; rfl
  have hlen : (Lib.split s sep).length = Lib.countB ⟨s.toArray⟩ ⟨sep.toArray⟩ + 1 := by rw [e3, List.length_map]; exact Lib.splitB_all _ (by omega) _ _ _ rfl
  refine (Tryz.strings_Split ⟨s.toArray⟩ ⟨sep.toArray⟩ m w (by omega) hm (by omega)).mono ?_
  rintro e w' ⟨rfl, rfl⟩
  rw [hlen]
  refine ⟨⟨_, rfl, block_rds encS_len ?_ (heap_alloc_new w _)⟩, (Below.refl _ _).alloc (Nat.le_refl _) _⟩
  rw [e3]
  generalize Lib.splitB _ _ _ _ = l
  induction l with
  | nil => rfl
  | cons a l ih => simp only [List.map_cons, List.flatMap_cons] at ih ⊢; rw [show encS a.data.toList = [Value.string a] from rfl]; rw [List.singleton_append, ← ih]

set_option maxHeartbeats 4000000 in
set_option maxRecDepth 100000 in
/-- stext.readList. -/
theorem sreadList_any (s : St.W) (hs : s.length ≤ 1000000) (hc : (Lib.split s [44, 32]).length ≤ 1000000) (w : World) (G : Glob w) :
    Calls Tryz.prog 90 #[.string ⟨s.toArray⟩] w fun e w' => (∃ A c, e = .returned (.tuple #[.slice A (St.listP s).1.length c, .bool (St.listP s).2]) ∧ RdZ w' (fun g => w.heap.size ≤ g) A (St.listP s).1) ∧ Below w.heap.size w w' := by
  have HS := Lib.hid (fun W (G : Glob W) => split_any s [44, 32] hs (by simp) W G)
  by_cases h0 : s = []
  · subst h0
    go_enter Tryz.func90, Tryz.ntmps90
    go_wp2
    go_ret2
    exact ⟨⟨none, 0, rfl, RdT.nil_⟩, Below.refl _ _⟩
  · have hx : St.listP s = St.valsP (Lib.split s [44, 32]) := if_neg h0
    rw [hx]
    obtain ⟨L, hL⟩ : ∃ L, Lib.split s [44, 32] = L := ⟨_, rfl⟩
    rw [hL] at HS hc ⊢
    have HV := Lib.hid (fun W A (h : RdS W W.heap.size A 1 encS L) => sreadVals_any A L.length L.length L rfl hc W h)
    obtain ⟨⟨z, zb⟩, hz⟩ : ∃ Z, St.valsP L = Z := ⟨_, rfl⟩
    rw [hz] at HV ⊢
    dsimp only at HV ⊢
    have hq := beq_no h0
    have hq2 : (s == []) = false := by simpa using h0
    have hq3 : List.isEmpty s = false := by simpa using h0
    clear hx hL hz
    go_enter Tryz.func90, Tryz.ntmps90
    go_wp2_with (first
      | (go_at_call 28; refine (HS.out _ G).mono ?_; rintro e w1 ⟨⟨A, rfl, hrd⟩, hb⟩)
      | (go_at_call 67; refine (HV.out _ _ hrd).mono ?_; rintro e w2 ⟨⟨A2, c2, rfl, hrd2⟩, hb2⟩))
    go_ret2
    exact ⟨⟨_, _, rfl, hrd2.mono (fun g _ h => Nat.le_trans hb.size h)⟩, hb.trans (hb2.mono hb.size)⟩
end Go.Proofs.YtmhmpobjjhbklaaGreatDoor
