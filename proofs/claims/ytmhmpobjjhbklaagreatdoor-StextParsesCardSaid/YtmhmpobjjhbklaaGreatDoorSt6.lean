/-
  Layer 40, the program: vals, writable.
-/
import Derived.Test.YtmhmpobjjhbklaaGreatDoorSt5
set_option linter.unusedVariables false
set_option linter.unusedSimpArgs false
namespace Go.Proofs.YtmhmpobjjhbklaaGreatDoor
namespace St
def insMay (x : Ins) : Bool := (word kindW x.kind).2 && (Opc.known x.op && !(x.op == 28))
def blkMay (b : Blk) : Bool := b.ins.all insMay && (word endW b.fin.kind).2
def may (x : Ssa) : Bool := x.ps.all Ty.val && (x.rs.all Ty.val && (x.vals.all Ty.val && x.blocks.all blkMay))
def valsO (l : List Int) : List UInt8 := Lib.join ([118, 97, 108, 115] :: l.map Ty.name) [32]
theorem tyname_len (t : Int) : (Ty.name t).length ≤ 9 := by
  unfold Ty.name
  repeat' split
  all_goals simp
theorem valsO_len (l : List Int) : (valsO l).length ≤ 10 * l.length + 10 := by
  have := joinl_len 9 ([118, 97, 108, 115] :: l.map Ty.name) fun s hs => by
    rcases List.mem_cons.1 hs with rfl | hs
    · simp
    · obtain ⟨z, hz, rfl⟩ := List.mem_map.1 hs
      exact tyname_len z
  unfold valsO
  simp at this ⊢; omega
end St
open Go.RowKit
open St (InR)

structure SsaAt (S : Nat → Prop) (w : World) (x : St.Ssa) (P R V B : Option Addr) : Prop where
  ps : RdZ w S P x.ps
  rs : RdZ w S R x.rs
  vals : RdZ w S V x.vals
  blocks : RdT w S B 7 (BlkAt S) x.blocks
theorem SsaAt.keep {S : Nat → Prop} {w w' : World} {x : St.Ssa} {P R V B : Option Addr} (hk : Keep S w w') (hsz : w.heap.size ≤ w'.heap.size) (h : SsaAt S w x P R V B) : SsaAt S w' x P R V B :=
  ⟨h.ps.keep hk hsz, h.rs.keep hk hsz, h.vals.keep hk hsz, h.blocks.keep (fun g o x hs hx => BlkAt.keep hk hsz g o x hs hx) hsz⟩
theorem SsaAt.on {S : Nat → Prop} {w w' : World} {x : St.Ssa} {P R V B : Option Addr} (h : SsaAt S w x P R V B) (hb : Below w.heap.size w w') : SsaAt S w' x P R V B := h.keep (Below.keep hb S) hb.size
def ssaV (x : St.Ssa) (P : Option Addr) (c1 : Nat) (R : Option Addr) (c2 : Nat) (V : Option Addr) (c3 : Nat) (B : Option Addr) (c4 : Nat) : Value := .agg #[.slice P x.ps.length c1, .slice R x.rs.length c2, .slice V x.vals.length c3, .slice B x.blocks.length c4]

set_option maxHeartbeats 4000000 in
/-- stext.vals. -/
theorem svals_any (A1 : Option Addr) (c1 n1 : Nat) (l : List Int) (hn : l.length = n1) (hl : n1 ≤ 5000) (w : World) (h1 : RdS w w.heap.size A1 1 encZ l) :
    Calls Tryz.prog 17 #[.slice A1 n1 c1] w fun e w' => e = .returned (.string ⟨(St.valsO l).toArray⟩) ∧ Below w.heap.size w w' := by
  obtain ⟨i0, hi0, hz0, hz1, hz2⟩ := info_parts info_string
  subst hn
  have hrl := St.valsO_len l
  have hlit := lit_own (enc := encS) (k := 1) (n := 1) (e := 9) (l := [[118, 97, 108, 115]]) (cs := #[.string ⟨#[118, 97, 108, 115]⟩]) w rfl encS_len rfl (by omega)
  have HL := Lib.hid hlit
  clear hlit
  go_enter Tryz.func17, Tryz.ntmps17
  go_wp2
  go_loopw [3, 9] (fun ov iv wr => ∃ (i : Nat) (A : Option Addr) (c : Nat), ov = .slice A (i + 1) c ∧ iv = .int .i64 (i : Int) ∧ i ≤ l.length ∧ wr.ownsRow w.heap.size 9 1 (.slice A (i + 1) c) (i + 1) (([118, 97, 108, 115] :: (l.take i).map Ty.name).flatMap encS) ∧ Below w.heap.size w wr) (fun _ iv _ => l.length - (intOf iv).toNat)
  case atStart => exact ⟨0, _, _, rfl, rfl, by omega, HL.out, (Below.refl _ _).alloc (Nat.le_refl _) _⟩
  case round =>
    obtain ⟨i, A, c, rfl, rfl, hi, hown, hB⟩ := hrel
    by_cases hia : i < l.length
    · obtain ⟨ga, oa, rfl, hb1, e1⟩ := (h1.below hB).get hia
      have ht2 : [118, 97, 108, 115] :: (l.take (i + 1)).map Ty.name = ([118, 97, 108, 115] :: (l.take i).map Ty.name) ++ [Ty.name l[i]] := by rw [List.take_succ_eq_append_getElem hia, List.map_append]; rfl
      have f0 := e1 0 _ rfl
      rw [Nat.add_zero, Nat.mul_one] at f0
      obtain ⟨z, hv⟩ : ∃ v, l[i] = v := ⟨_, rfl⟩
      rw [hv] at f0 ht2
      have x0 : (i : Int) < (l.length : Int) := by omega
      have x2 : (0 : Int) ≤ (i : Int) := by omega
      have hsz := hB.size
      have HT := Lib.hid ht2
      have hia' := fun W => name_any z W
      obtain ⟨s, hs⟩ : ∃ s, Ty.name z = s := ⟨_, rfl⟩
      simp only [hs] at hia'
      have HI := Lib.hid hia'
      have HSS := Lib.hid hs
      have HB := Lib.hid hB
      clear hia' hs ht2 hv e1 hB
      go_wp2_with (first
        | (go_at_call 49; refine (HI.out _).mono ?_; rintro e w1 ⟨rfl, rfl⟩)
        | (at_builtin; refine app_rs Tryz.underlying54 hi0 hz0 hz1 hz2 rfl (by omega) encS_len encS_one _ rfl (.tmp 13) (.tmp 16) rfl w.heap.size _ (i + 1) _ (by rfl) (hown.alloc _) [s] 1 1 _ rfl (by rfl) (one_str _ s) (by omega) (by omega) (by simp; omega) ?_; intro A' c' w2 hown2 hg; have HB3 := Lib.hid ((HB.out.alloc HB.out.size _).trans (below_own (hown.alloc _) hg (by simp; omega))); clear hg))
      go_roundw
      case rel => exact ⟨i + 1, A', c', rfl, by go_num, by omega, by rw [HT.out, HSS.out]; exact hown2, HB3.out⟩
      case measure => simp [intOf]; omega
    · have hi2 : i = l.length := by omega
      subst hi2
      rw [List.take_length] at hown
      have HB := Lib.hid hB
      have hsz := hB.size
      clear hB
      go_wp2_with (go_at_call 22; refine (sjoins_any _ _ _ _ ([118, 97, 108, 115] :: l.map Ty.name) [32] _ (by simp) hown (by omega) (by show (St.valsO l).length ≤ _; omega)).mono ?_; rintro e w1 ⟨rfl, hb⟩)
      go_ret
      exact ⟨rfl, HB.out.trans (hb.mono hsz)⟩

theorem RdZ.on' {w w' : World} {S : Nat → Prop} {A : Option Addr} {l : List Int} (h : RdZ w S A l) (hb : Below w.heap.size w w') : RdZ w' S A l := h.keep (Below.keep hb S) hb.size
def encT (t : Option Addr × Nat × List Int) : List Value := [.slice t.1 t.2.2.length t.2.1]
theorem encT_len (t : Option Addr × Nat × List Int) : (encT t).length = 1 := rfl
/-- A block's seven cells. -/
theorem BlkAt.seven {S : Nat → Prop} {w : World} {g o : Nat} {x : St.Blk} (h : BlkAt S w g o x) : ∃ Ap cp Ai ci Aa ca At ct,
    (w.cell? ⟨g, o, none⟩ = some (.slice Ap x.params.length cp) ∧ w.cell? ⟨g, o + 1, none⟩ = some (.slice Ai x.ins.length ci) ∧ w.cell? ⟨g, o + 2, none⟩ = some (.int .i64 x.fin.kind) ∧ w.cell? ⟨g, o + 3, none⟩ = some (.int .i64 x.fin.cond) ∧ w.cell? ⟨g, o + 4, none⟩ = some (.slice Aa x.fin.args.length ca) ∧ w.cell? ⟨g, o + 5, none⟩ = some (.slice At x.fin.edges.length ct) ∧ w.cell? ⟨g, o + 6, none⟩ = some (.int .i64 x.fin.trap)) ∧
    RdZ w S Ap x.params ∧ RdT w S Ai 7 (InsAt S) x.ins ∧ RdZ w S Aa x.fin.args ∧ RdT w S At 2 (EdgeAt S) x.fin.edges := by
  obtain ⟨⟨Ap, cp, h1, h2⟩, ⟨Ai, ci, h3, h4⟩, k1, k2, ⟨Aa, ca, k3, k4⟩, ⟨At, ct, k5, k6⟩, k7⟩ := h
  exact ⟨Ap, cp, Ai, ci, Aa, ca, At, ct, ⟨h1, h3, k1, k2, k3, k5, k7⟩, h2, h4, k4, k6⟩

set_option maxHeartbeats 16000000 in
set_option maxRecDepth 100000 in
/-- stext.writable. -/
theorem swritable_any (x : St.Ssa) (hx : x.Ok) (S : Nat → Prop) (P R V B : Option Addr) (c1 c2 c3 c4 : Nat) (w : World) (h : SsaAt S w x P R V B) (G : Glob w) :
    Calls Tryz.prog 15 #[ssaV x P c1 R c2 V c3 B c4] w fun e w' => e = .returned (.bool (St.may x)) ∧ Below w.heap.size w w' := by
  unfold ssaV
  obtain ⟨ps, rs, vals, blocks⟩ := x
  obtain ⟨m1, m2, m3, m4, m5⟩ := hx
  obtain ⟨r1, r2, r3, r4⟩ := h
  dsimp only at *
  obtain ⟨Ls, hLs⟩ : ∃ L : List (Option Addr × Nat × List Int), L = [(P, c1, ps), (R, c2, rs), (V, c3, vals)] := ⟨_, rfl⟩
  have hlen : Ls.length = 3 := by rw [hLs]; rfl
  have hall : ∀ t ∈ Ls, RdZ w S t.1 t.2.2 ∧ t.2.2.length ≤ 5000 := by
    rw [hLs]; intro t ht
    simp at ht
    rcases ht with rfl | rfl | rfl
    · exact ⟨r1, m1⟩
    · exact ⟨r2, m2⟩
    · exact ⟨r3, m3⟩
  obtain ⟨M, hM⟩ : ∃ b, St.may ⟨ps, rs, vals, blocks⟩ = b := ⟨_, rfl⟩
  have hM0 : M = (Ls.all (fun t => t.2.2.all Ty.val) && blocks.all St.blkMay) := by
    rw [← hM, hLs]; simp [St.may, Bool.and_assoc]
  have hblk : ∀ W : World, RdS (W.alloc (.cells #[.slice P ps.length c1, .slice R rs.length c2, .slice V vals.length c3] 22)) (W.alloc (.cells #[.slice P ps.length c1, .slice R rs.length c2, .slice V vals.length c3] 22)).heap.size (some ⟨W.heap.size, 0, none⟩) 1 encT Ls := fun W => block_rds encT_len (by rw [hLs]; rfl) (heap_alloc_new W _)
  have HBK := Lib.hid hblk
  have HALL := Lib.hid hall
  have HM0 := Lib.hid hM0
  have HM := Lib.hid hM
  have HM5 := Lib.hid m5
  have HKW := Lib.hid (fun i W (G : Glob W) => sword_any St.kindT (by decide) St.kindW rfl i W G)
  have HEW := Lib.hid (fun i W (G : Glob W) => sword_any St.endT (by decide) St.endW rfl i W G)
  rw [show St.endT = [106, 117, 109, 112, 32, 105, 102, 32, 115, 119, 105, 116, 99, 104, 32, 114, 101, 116, 117, 114, 110, 32, 116, 114, 97, 112] from rfl] at HEW
  rw [show St.kindT = [112, 97, 114, 97, 109, 32, 99, 111, 110, 115, 116, 32, 110, 117, 108, 108, 32, 117, 110, 32, 98, 105, 110, 32, 115, 101, 108, 101, 99, 116, 32, 108, 111, 97, 100, 32, 115, 116, 111, 114, 101, 32, 99, 104, 101, 99, 107, 32, 115, 105, 122, 101, 32, 103, 114, 111, 119, 32, 103, 108, 111, 98, 97, 108, 32, 115, 101, 116, 32, 99, 97, 108, 108, 32, 99, 97, 108, 108, 105, 110, 32, 114, 101, 102, 32, 105, 115, 110, 117, 108, 108, 32, 98, 117, 108, 107, 32, 116, 97, 98, 32, 102, 117, 101, 108] from rfl] at HKW
  have HR4 := Lib.hid r4
  clear hblk hall hM0 hM m5 r1 r2 r3 r4 hLs
  go_enter Tryz.func15, Tryz.ntmps15
  go_upto_region 2 with fail
  refine at_code (F := fun W => RdS W W.heap.size (some ⟨w.heap.size + 1, 0, none⟩) 1 encT Ls ∧ W.cell? ⟨w.heap.size, 2, none⟩ = some (.slice V vals.length c3) ∧ W.cell? ⟨w.heap.size, 3, none⟩ = some (.slice B blocks.length c4) ∧ Below w.heap.size w W) ⟨by simpa using HBK.out (w.alloc _), ?_, ?_, ((Below.refl _ w).alloc (Nat.le_refl _) _).alloc (by simp) _⟩ ?_
  · go_keep
  · go_keep
  rintro w0 ⟨hd, _, hb3, B0⟩
  go_wp2
  go_loopw [25] (fun jv wr => ∃ j : Nat, jv = .int .i64 (j : Int) ∧ j ≤ 3 ∧ wr = w0 ∧ Hid (M = ((Ls.drop j).all (fun t => t.2.2.all Ty.val) && blocks.all St.blkMay))) (fun jv _ => 3 - (intOf jv).toNat)
  case atStart => exact ⟨0, rfl, by omega, rfl, HM0⟩
  case round =>
    obtain ⟨j, rfl, hj, rfl, HR⟩ := hrel
    by_cases hja : j < 3
    · obtain ⟨g, o, hge, hg, hc⟩ := hd.get (i := j) (by omega)
      obtain ⟨rfl, rfl⟩ : w.heap.size + 1 = g ∧ 0 = o := by injection hge with e; injection e with e1 e2; exact ⟨e1, e2⟩
      obtain ⟨hz, hzl⟩ := HALL.out Ls[j] (List.getElem_mem _)
      have hdr : Ls.drop j = Ls[j] :: Ls.drop (j + 1) := List.drop_eq_getElem_cons (by omega)
      obtain ⟨⟨At, ct, tl⟩, htv⟩ : ∃ t, Ls[j] = t := ⟨_, rfl⟩
      rw [htv] at hc hz hzl hdr
      dsimp only at hz hzl
      have f0 := hc 0 _ rfl
      dsimp only at f0
      simp only [Nat.zero_add, Nat.mul_one, Nat.add_zero] at f0
      have HR2 : Hid (M = (tl.all Ty.val && ((Ls.drop (j + 1)).all (fun t => t.2.2.all Ty.val) && blocks.all St.blkMay))) := Lib.hid (by rw [HR.out, hdr, List.all_cons, Bool.and_assoc])
      have hz2 := (hz.on' B0).rds
      have x0 : (j : Int) < 3 := by omega
      have x2 : (0 : Int) ≤ (j : Int) := by omega
      clear hc hdr htv hge hz
      go_wp2
      go_loopw [31] (fun kv wq => ∃ k : Nat, kv = .int .i64 (k : Int) ∧ k ≤ tl.length ∧ wq = wr ∧ Hid (M = ((tl.drop k).all Ty.val && ((Ls.drop (j + 1)).all (fun t => t.2.2.all Ty.val) && blocks.all St.blkMay)))) (fun kv _ => tl.length - (intOf kv).toNat)
      case atStart => exact ⟨0, rfl, by omega, rfl, HR2⟩
      case round =>
        obtain ⟨k, rfl, hk, rfl, HRk⟩ := hrel
        by_cases hka : k < tl.length
        · obtain ⟨ga, oa, rfl, hb1, e1⟩ := hz2.get hka
          have hdk : tl.drop k = tl[k] :: tl.drop (k + 1) := List.drop_eq_getElem_cons hka
          have q0 := e1 0 _ rfl
          rw [Nat.add_zero, Nat.mul_one] at q0
          obtain ⟨z, hv⟩ : ∃ v, tl[k] = v := ⟨_, rfl⟩
          rw [hv] at q0 hdk
          have y0 : (k : Int) < (tl.length : Int) := by omega
          have y2 : (0 : Int) ≤ (k : Int) := by omega
          clear e1 hv
          rcases hvz : Ty.val z with _ | _
          · have HF : Hid (M = false) := Lib.hid (by rw [HRk.out, hdk, List.all_cons, hvz]; rfl)
            have HV := Lib.hid hvz
            clear hvz hdk
            go_wp2_with (go_at_call 45; refine (val_any _ _).mono ?_; rintro e w1 ⟨rfl, rfl⟩; rw [HV.out])
            go_ret
            exact ⟨by rw [HM.out, HF.out]; rfl, B0⟩
          · have HF : Hid (M = ((tl.drop (k + 1)).all Ty.val && ((Ls.drop (j + 1)).all (fun t => t.2.2.all Ty.val) && blocks.all St.blkMay))) := Lib.hid (by rw [HRk.out, hdk, List.all_cons, hvz]; rfl)
            have HV := Lib.hid hvz
            clear hvz hdk
            go_wp2_with (go_at_call 45; refine (val_any _ _).mono ?_; rintro e w1 ⟨rfl, rfl⟩; rw [HV.out])
            go_roundw
            case rel => exact ⟨k + 1, by go_num, by omega, by trivial, HF⟩
            case measure => simp [intOf]; omega
        · have hk2 : k = tl.length := by omega
          have HF : Hid (M = ((Ls.drop (j + 1)).all (fun t => t.2.2.all Ty.val) && blocks.all St.blkMay)) := Lib.hid (by rw [HRk.out, hk2, List.drop_length]; rfl)
          have y0 : ¬ (k : Int) < (tl.length : Int) := by omega
          clear hk2
          go_wp2
          go_roundw
          case rel => exact ⟨j + 1, by go_num, by omega, by trivial, HF⟩
          case measure => simp [intOf]; omega
    · obtain rfl : j = 3 := by omega
      rw [show ((3 : Nat) : Int) = 3 from rfl]
      have HR3 : Hid (M = blocks.all St.blkMay) := Lib.hid (by rw [HR.out, List.drop_of_length_le (by omega)]; rfl)
      clear HR hd
      go_wp2
      go_loopw [43] (fun iv wq => ∃ i : Nat, iv = .int .i64 (i : Int) ∧ i ≤ blocks.length ∧ Below w.heap.size w wq ∧ Hid (M = (blocks.drop i).all St.blkMay)) (fun iv _ => blocks.length - (intOf iv).toNat)
      case atStart => exact ⟨0, rfl, by omega, B0, HR3⟩
      case round =>
        clear B0 hb3
        obtain ⟨i, rfl, hi, B0, HRi⟩ := hrel
        by_cases hia : i < blocks.length
        · obtain ⟨g, o, rfl, hsg, hg, hblk⟩ := (HR4.out.keep (fun g o x hs hx => BlkAt.keep (Below.keep B0 S) B0.size g o x hs hx) B0.size).get hia
          have hdi : blocks.drop i = blocks[i] :: blocks.drop (i + 1) := List.drop_eq_getElem_cons hia
          have hok := HM5.out blocks[i] (List.getElem_mem _)
          obtain ⟨b, hbv⟩ : ∃ b, blocks[i] = b := ⟨_, rfl⟩
          rw [hbv] at hblk hdi hok
          obtain ⟨Ap, cp, Ai, ci, Aa, ca, At, ct, ⟨q0, q1, q2, q3, q4, q5, q6⟩, p1, p2, p3, p4⟩ := hblk.seven
          obtain ⟨params, ins, fin⟩ := b
          obtain ⟨fk, fc, fa, fe, ft⟩ := fin
          dsimp only at q0 q1 q2 q3 q4 q5 q6 p1 p2 p3 p4
          have hins := hok.ins
          dsimp only at hins
          obtain ⟨hil, hio⟩ := hins
          have x0 : (i : Int) < (blocks.length : Int) := by omega
          have x2 : (0 : Int) ≤ (i : Int) := by omega
          have HIN : Hid (M = (ins.all St.insMay && ((St.word St.endW fk).2 && (blocks.drop (i + 1)).all St.blkMay))) := Lib.hid (by rw [HRi.out, hdi, List.all_cons, St.blkMay, Bool.and_assoc])
          have HP2 := Lib.hid p2
          clear hdi hbv hblk hok p1 p3 p4 p2
          obtain ⟨K, hK⟩ : ∃ K, wr.heap.size = K := ⟨_, rfl⟩
          have HK0 := Lib.hid hK
          clear hK
          go_upto_region 14 with fail
          have hK := HK0.out
          clear HK0
          refine at_code (F := fun W => Var W K #[.slice Ap params.length cp, .slice Ai ins.length ci, .int .i64 fk, .int .i64 fc, .slice Aa fa.length ca, .slice At fe.length ct, .int .i64 ft] 44 ∧ RdT W S Ai 7 (InsAt S) ins ∧ Below w.heap.size w W) ⟨Var.newE _ _ _ hK, HP2.out.keep (fun g o x hs hx => InsAt.keep (Below.keep ((Below.refl _ wr).alloc (Nat.le_refl _) _) S) (by simp) g o x hs hx) (by simp), B0.alloc B0.size _⟩ ?_
          simp only [hK]
          clear B0 HP2 q0 q1 q2 q3 q4 q5 q6 hg
          clear hK
          rintro w1 ⟨VK, hin, B0⟩
          have q1 := VK.cells 1
          go_wp2
          go_loopw [50] (fun kv wq => ∃ k : Nat, kv = .int .i64 (k : Int) ∧ k ≤ ins.length ∧ Var wq K #[.slice Ap params.length cp, .slice Ai ins.length ci, .int .i64 fk, .int .i64 fc, .slice Aa fa.length ca, .slice At fe.length ct, .int .i64 ft] 44 ∧ RdT wq S Ai 7 (InsAt S) ins ∧ Below w.heap.size w wq ∧ Hid (M = ((ins.drop k).all St.insMay && ((St.word St.endW fk).2 && (blocks.drop (i + 1)).all St.blkMay)))) (fun kv _ => ins.length - (intOf kv).toNat)
          case atStart => exact ⟨0, rfl, by omega, VK, hin, B0, HIN⟩
          case round =>
            clear VK hin B0 q1
            obtain ⟨k, rfl, hk, VK, hin, B0, HRk⟩ := hrel
            by_cases hka : k < ins.length
            · obtain ⟨gi, oi, rfl, hsi, hgi, d0, d1, d2, d3, d4, ⟨Ba, ba, d5, _⟩, Bb, bb, d6, _⟩ := hin.get hka
              have hdk : ins.drop k = ins[k] :: ins.drop (k + 1) := List.drop_eq_getElem_cons hka
              obtain ⟨y, hyv⟩ : ∃ y, ins[k] = y := ⟨_, rfl⟩
              rw [hyv] at d0 d1 d2 d3 d4 d5 d6 hdk
              obtain ⟨ik, iop, ia, ib, inn, iar, iou⟩ := y
              dsimp only at d0 d1 d2 d3 d4 d5 d6
              have hH : M = (St.insMay ⟨ik, iop, ia, ib, inn, iar, iou⟩ && ((ins.drop (k + 1)).all St.insMay && ((St.word St.endW fk).2 && (blocks.drop (i + 1)).all St.blkMay))) := by rw [HRk.out, hdk, List.all_cons, Bool.and_assoc]
              unfold St.insMay at hH
              dsimp only at hH
              rw [← St.known_name] at hH
              have y0 : (k : Int) < (ins.length : Int) := by omega
              have y2 : (0 : Int) ≤ (k : Int) := by omega
              have HKWi := Lib.hid (fun W (G : Glob W) => HKW.out ik W G)
              have HKN := Lib.hid (fun W (G : Glob W) => oknown_any iop W G)
              obtain ⟨⟨KW, kb⟩, hkw⟩ : ∃ y, St.word St.kindW ik = y := ⟨_, rfl⟩
              rw [hkw] at HKWi hH
              obtain ⟨nk, hnk⟩ : ∃ b, (Opc.name iop == []) = b := ⟨_, rfl⟩
              rw [hnk] at HKN hH
              obtain ⟨q28, hq28⟩ : ∃ b, (iop == 28) = b := ⟨_, rfl⟩
              rw [hq28] at hH
              have B1 : Below w.heap.size w (wr.alloc (.cells #[.int .i64 ik, .int .i64 iop, .int .i64 ia, .int .i64 ib, .int .u64 (inn : Int), .slice Ba iar.length ba, .slice Bb iou.length bb] 48)) := B0.alloc B0.size _
              have hkeep : ∀ w2 : World, Below (wr.alloc (.cells #[.int .i64 ik, .int .i64 iop, .int .i64 ia, .int .i64 ib, .int .u64 (inn : Int), .slice Ba iar.length ba, .slice Bb iou.length bb] 48)).heap.size (wr.alloc (.cells #[.int .i64 ik, .int .i64 iop, .int .i64 ia, .int .i64 ib, .int .u64 (inn : Int), .slice Ba iar.length ba, .slice Bb iou.length bb] 48)) w2 →
                  w2.cell? ⟨wr.heap.size, 1, none⟩ = some (.int .i64 iop) ∧ Hid (Below w.heap.size w w2) ∧ Hid (Below wr.heap.size wr w2) := fun w2 hb =>
                ⟨((Var.new wr _ _).below hb (by simp)).cells 1, Lib.hid (B1.trans (hb.mono B1.size)), Lib.hid (below_one hb)⟩
              have HKP := Lib.hid hkeep
              have HVK := Lib.hid VK
              have HIN2 := Lib.hid hin
              have HB0 := Lib.hid B0
              have HB1 := Lib.hid B1
              clear hdk hyv hkw hnk hkeep VK hin B0 B1
              rcases kb with _ | _
              · have HF : Hid (M = false) := Lib.hid (by rw [hH]; rfl)
                clear hH
                go_wp2_with (first
                  | (go_at_call 46; refine (HKWi.out _ (G.below HB1.out)).mono ?_; rintro e w2 ⟨rfl, hb⟩; obtain ⟨z1, Z2, Z3⟩ := HKP.out _ hb; clear hb))
                go_ret
                exact ⟨by rw [HM.out, HF.out]; rfl, Z2.out⟩
              · rcases nk with _ | _
                · rcases q28 with _ | _
                  · have HF : Hid (M = ((ins.drop (k + 1)).all St.insMay && ((St.word St.endW fk).2 && (blocks.drop (i + 1)).all St.blkMay))) := Lib.hid (by rw [hH]; rfl)
                    clear hH
                    go_wp2_with (first
                      | (go_at_call 46; refine (HKWi.out _ (G.below HB1.out)).mono ?_; rintro e w2 ⟨rfl, hb⟩; obtain ⟨z1, Z2, Z3⟩ := HKP.out _ hb; clear hb)
                      | (go_at_call 47; refine (HKN.out _ (G.below Z2.out)).mono ?_; rintro e w3 ⟨rfl, hb3⟩; have z1' := (Below.keep hb3 (fun _ => True)) _ _ trivial z1; have Y2 := Lib.hid (Z2.out.trans (hb3.mono Z2.out.size)); have Y3 := Lib.hid (Z3.out.trans (hb3.mono Z3.out.size)); clear hb3))
                    have hV := Lib.hid (HVK.out.below Y3.out HVK.out.lt)
                    have hI := Lib.hid (HIN2.out.keep (fun g o x hs hx => InsAt.keep (Below.keep Y3.out S) Y3.out.size g o x hs hx) Y3.out.size)
                    go_wp2
                    go_roundw
                    case rel => exact ⟨k + 1, by go_num, by omega, hV.out, hI.out, Y2.out, HF⟩
                    case measure => simp [intOf]; omega
                  · have HF : Hid (M = false) := Lib.hid (by rw [hH]; rfl)
                    clear hH
                    go_wp2_with (first
                      | (go_at_call 46; refine (HKWi.out _ (G.below HB1.out)).mono ?_; rintro e w2 ⟨rfl, hb⟩; obtain ⟨z1, Z2, Z3⟩ := HKP.out _ hb; clear hb)
                      | (go_at_call 47; refine (HKN.out _ (G.below Z2.out)).mono ?_; rintro e w3 ⟨rfl, hb3⟩; have z1' := (Below.keep hb3 (fun _ => True)) _ _ trivial z1; have Y2 := Lib.hid (Z2.out.trans (hb3.mono Z2.out.size)); clear hb3))
                    go_ret
                    exact ⟨by rw [HM.out, HF.out]; rfl, Y2.out⟩
                · have HF : Hid (M = false) := Lib.hid (by rw [hH]; rfl)
                  clear hH
                  go_wp2_with (first
                    | (go_at_call 46; refine (HKWi.out _ (G.below HB1.out)).mono ?_; rintro e w2 ⟨rfl, hb⟩; obtain ⟨z1, Z2, Z3⟩ := HKP.out _ hb; clear hb)
                    | (go_at_call 47; refine (HKN.out _ (G.below Z2.out)).mono ?_; rintro e w3 ⟨rfl, hb3⟩; have Y2 := Lib.hid (Z2.out.trans (hb3.mono Z2.out.size)); clear hb3))
                  go_ret
                  exact ⟨by rw [HM.out, HF.out]; rfl, Y2.out⟩
            · have hk2 : k = ins.length := by omega
              have hH : M = ((St.word St.endW fk).2 && (blocks.drop (i + 1)).all St.blkMay) := by rw [HRk.out, hk2, List.drop_length]; rfl
              have y0 : ¬ (k : Int) < (ins.length : Int) := by omega
              have z2 := VK.cells 2
              have HEWi := Lib.hid (fun W (G : Glob W) => HEW.out fk W G)
              obtain ⟨⟨KW, kb⟩, hkw⟩ : ∃ y, St.word St.endW fk = y := ⟨_, rfl⟩
              rw [hkw] at HEWi hH
              have HB0 := Lib.hid B0
              clear hkw hk2 hin VK B0
              rcases kb with _ | _
              · have HF : Hid (M = false) := Lib.hid (by rw [hH]; rfl)
                clear hH
                go_wp2_with (go_at_call 46; refine (HEWi.out _ (G.below HB0.out)).mono ?_; rintro e w2 ⟨rfl, hb⟩; have Z2 := Lib.hid (HB0.out.trans (hb.mono HB0.out.size)); clear hb)
                go_ret
                exact ⟨by rw [HM.out, HF.out]; rfl, Z2.out⟩
              · have HF : Hid (M = (blocks.drop (i + 1)).all St.blkMay) := Lib.hid (by rw [hH]; rfl)
                clear hH
                go_wp2_with (go_at_call 46; refine (HEWi.out _ (G.below HB0.out)).mono ?_; rintro e w2 ⟨rfl, hb⟩; have Z2 := Lib.hid (HB0.out.trans (hb.mono HB0.out.size)); clear hb)
                go_roundw
                case rel => exact ⟨i + 1, by go_num, by omega, Z2.out, HF⟩
                case measure => simp [intOf]; omega
        · have hi2 : i = blocks.length := by omega
          have HF : Hid (M = true) := Lib.hid (by rw [HRi.out, hi2, List.drop_length]; rfl)
          have y0 : ¬ (i : Int) < (blocks.length : Int) := by omega
          clear hi2
          go_wp2
          go_ret
          exact ⟨by rw [HM.out, HF.out]; rfl, B0⟩
end Go.Proofs.YtmhmpobjjhbklaaGreatDoor
