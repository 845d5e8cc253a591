/-
  The law Same of the literals: the walk.
-/
import Derived.Test.YtpmalmednkknpaaDoorLitAlive
import Derived.Test.YtpmalmednkknpaaDoorLitP4
import Derived.Test.YtpmalmednkknpaaDoorLitLaws5
import Derived.StillTailTactics
set_option linter.unusedVariables false
namespace Go.Proofs.YtpmalmednkknpaaDoor
open Go.RowKit
attribute [local go_sem] ByteArray.extract_mk

theorem u64_nib (a : Nat) (h : a < 18446744073709551616) : bits .and .u64 (a : Int) 15 = ((a % 16 : Nat) : Int) := by
  have := (bits_nat .u64 64 (by decide) (fun n h0 h1 => by rw [IntKind.wrap_u64]; omega) a 15 (by omega) (by decide)).1
  have e : a &&& 15 = a % 16 := Nat.and_two_pow_sub_one_eq_mod a 4
  rw [e] at this
  exact this

theorem one_str {a : Value} (ha : a.oneCell' = true) : ∀ u ∈ (#[a] : Array Value).toList, u.oneCell' = true := by
  intro u hu; simp at hu; subst hu; exact ha
theorem info_string : (Tryd.prog.info? 9).map (fun i => (i.zero, i.size, i.bytes)) = some (some (.string ByteArray.empty), 1, 16) := by kernel_rfl
set_option maxHeartbeats 2000000 in
set_option maxRecDepth 100000 in
theorem same_walk (n : Nat) (hn : n < 18446744073709551616) (a b : Int) (w : World) (ht : Tab w) (ha : 0 ≤ a ∧ a ≤ 255) (hb : 0 ≤ b ∧ b ≤ 255) :
    Calls Tryd.prog 9 #[.int .u64 (n : Int), .int .u8 a, .int .u8 b] w fun e w' => e = .returned (.bool true) ∧ Below w.heap.size w w' := by
  have HA : Hid (∀ W, Tab W → Calls Tryd.prog 11 #[] W fun e w' => e = .returned (.bool true) ∧ Below W.heap.size W w') := Lib.hid (fun W h => alive_any W h)
  obtain ⟨m, hm⟩ : ∃ m, n / 2 = m := ⟨_, rfl⟩
  have hml : m < 9223372036854775808 := by omega
  have hm64 : m < 18446744073709551616 := by omega
  have hsh : (n : Int) / 2 = (m : Int) := by omega
  have H3 : Hid (∀ W, Tab W → Calls Tryd.prog 20 #[.int .u64 (m : Int), .int .i64 64] W fun e w' => e = .returned (.string ⟨(Lib.decDigits m).toArray⟩) ∧ Below W.heap.size W w') := Lib.hid (fun W h => by have := text_any m (by omega) 64 W h; rw [Ltr.text_half m hml] at this; exact this)
  have hTl : (Lib.decDigits m).length ≤ 20 := dec_len 19 m (by omega)
  have hT0 : 0 < (Lib.decDigits m).length := List.length_pos_iff.2 (Ltr.dec_ne m hm64)
  have HN : Hid (∀ (S : ByteArray) W, S.size ≤ 1000000 → Calls Tryd.prog 16 #[.string S, .int .i64 64] W (RetN (Ltr.numF S.data.toList 64) W)) := Lib.hid (fun S W h => by
    obtain ⟨⟨l⟩⟩ := S
    exact num_any l 64 W h)
  have HNat : Hid (∀ (S : ByteArray) W, S.size ≤ 1000000 → Calls Tryd.prog 18 #[.string S, .int .i64 9223372036854775807] W fun e w' => e = .returned (.tuple #[.int .i64 (Ltr.natF S.data.toList 9223372036854775807).1, .int .i64 (Ltr.natF S.data.toList 9223372036854775807).2]) ∧ ∃ q, w' = W.drewN q) := Lib.hid (fun S W h => by
    obtain ⟨⟨l⟩⟩ := S
    exact lnat_any l _ W h (by decide))
  have N1 := Lib.hid (Ltr.same_plus m hm64)
  have N2 := Lib.hid (Ltr.same_hex m hm64)
  have N3 := Lib.hid (Ltr.same_hexcut m hm64)
  have N4 := Lib.hid (Ltr.same_zero m hm64)
  have N5 := Lib.hid (Ltr.same_cut m hm64)
  have N6 := Lib.hid (Ltr.same_neg m hm64 hml)
  have N7 := Lib.hid (Ltr.same_twosig m hm64 (Lib.decDigits m))
  have N8 := Lib.hid (fun k => Ltr.nat_zero m hm64 k hml)
  have N9 := Lib.hid (Ltr.nat_plus m hm64 (Lib.decDigits m))
  obtain ⟨T, hT⟩ : ∃ q, Lib.decDigits m = q := ⟨_, rfl⟩
  rw [hT] at H3 hTl hT0 N1 N4 N5 N6 N7 N8 N9
  clear hT
  go_enter Tryd.func9, Tryd.ntmps9
  go_wp2_with (first
    | (go_at_call 20; (refine (H3.out _ ht).mono ?_; rintro e1 w1 ⟨rfl, hb1⟩; have hs1 := hb1.size)))
  have ht1 := ht.below hb1
  go_loopw [8, 9] (fun hv iv wr => ∃ j q : Nat, j ≤ 16 ∧ iv = .int .i64 (60 - 4 * (j : Int)) ∧ hv = .string ⟨(Ltr.hxs m j).toArray⟩ ∧ wr = w1.drewN q) (fun _ iv _ => (intOf iv + 4).toNat)
  case atStart => exact ⟨0, 0, by omega, rfl, rfl, rfl⟩
  case round =>
    obtain ⟨j, q, hj, rfl, rfl, rfl⟩ := hrel
    by_cases hj16 : j < 16
    · obtain ⟨s, hs⟩ : ∃ s, 60 - 4 * j = s := ⟨_, rfl⟩
      have hz : 60 - 4 * (j : Int) = (s : Int) := by omega
      have hD := Ltr.hxD_fin ⟨m / 2 ^ s % 16, Nat.mod_lt _ (by decide)⟩
      have hnb := u64_nib (m / 2 ^ s) (Nat.lt_of_le_of_lt (Nat.div_le_self _ _) hm64)
      obtain ⟨d, hd⟩ : ∃ d, m / 2 ^ s % 16 = d := ⟨_, rfl⟩
      simp only [hd] at hD hnb
      have hd16 : d < 16 := by omega
      have hx : Ltr.hxs m (j + 1) = Ltr.hxs m j ++ [Ltr.hxD d] := by rw [Ltr.hxs, hs, hd]
      have HX := Lib.hid hx
      have hcut : List.take 1 (List.drop d [(48 : UInt8), 49, 50, 51, 52, 53, 54, 55, 56, 57, 97, 98, 99, 68, 69, 70]) = [Ltr.hxD d] := hD.2.2.2
      have hl1 : (Ltr.hxs m j).length ≤ 16 := by rw [Ltr.hxs_len]; omega
      have cst : ((m / 2 ^ s : Nat) : Int) = (m : Int) / 2 ^ s := by simp
      rw [cst] at hnb
      have k1 : IntKind.u64.wrap ((d : Int) + 1) = (d : Int) + 1 := by rw [IntKind.wrap_u64]; omega
      have q1 : (0 : Int) ≤ (d : Int) := by omega
      have q2 : (d : Int) < 16 := by omega
      have p0 : (0 : Int) ≤ (s : Int) := by omega
      have q3 : (d : Int) + 1 ≤ 16 := by omega
      have q4 : (d : Int) ≤ (d : Int) + 1 := by omega
      have q5 : ((d : Int) + 1).toNat = d + 1 := by omega
      rw [hz]
      clear hx hD cst
      go_wp2_with fail
      go_quiet (fail)
      go_wp2
      go_roundw
      case rel => exact ⟨j + 1, _, by omega, by go_num, by rw [HX.out]; exact congrArg Value.string (ba_app _ _), rfl⟩
      case measure => simp [intOf]; omega
    · obtain rfl : j = 16 := by omega
      obtain ⟨H, hH⟩ : ∃ q, Ltr.hxs m 16 = q := ⟨_, rfl⟩
      have hHl : H.length = 16 := by rw [← hH]; exact Ltr.hxs_len m 16
      rw [hH] at N2 N3 ⊢
      clear hH
      have hcutH : List.take 8 (List.drop 8 H) = List.drop 8 H := List.take_of_length_le (by simp [hHl])
      obtain ⟨S1, hS1⟩ : ∃ q, (ByteArray.mk #[43]) ++ (ByteArray.mk T.toArray) = q := ⟨_, rfl⟩
      obtain ⟨S2, hS2⟩ : ∃ q, (ByteArray.mk #[48, 120]) ++ (ByteArray.mk H.toArray) = q := ⟨_, rfl⟩
      obtain ⟨Sa, hSa⟩ : ∃ q, (ByteArray.mk #[43, 48, 120]) ++ (ByteArray.mk (H.take 8).toArray) = q := ⟨_, rfl⟩
      obtain ⟨Sb, hSb⟩ : ∃ q, Sa ++ (ByteArray.mk #[95]) = q := ⟨_, rfl⟩
      obtain ⟨S3, hS3⟩ : ∃ q, Sb ++ (ByteArray.mk (List.take 8 (List.drop 8 H)).toArray) = q := ⟨_, rfl⟩
      have f1 : ¬ 9223372036854775807 < 1 + T.length := by omega
      have zs : ∀ l : List UInt8, (ByteArray.mk l.toArray).size = l.length := fun l => by show l.toArray.size = _; simp
      have z1 : S1.size = 1 + T.length := by rw [← hS1, ByteArray.size_append, zs, zs]; simp
      have z2 : S2.size = 18 := by rw [← hS2, ByteArray.size_append, zs, zs]; simp [hHl]
      have za : Sa.size = 11 := by rw [← hSa, ByteArray.size_append, zs, zs]; simp [hHl]
      have zb : Sb.size = 12 := by rw [← hSb, ByteArray.size_append, za]; rfl
      have z3 : S3.size = 20 := by rw [← hS3, ByteArray.size_append, zb, zs]; simp [hHl]
      have n1 : Ltr.numF S1.data.toList 64 = ((m : Int), 0) := by rw [← hS1, ← N1.out]; congr 1
      have n2 : Ltr.numF S2.data.toList 64 = ((m : Int), 0) := by rw [← hS2, ← N2.out]; congr 1
      have n3 : Ltr.numF S3.data.toList 64 = ((m : Int), 0) := by rw [← hS3, ← hSb, ← hSa, ← N3.out, hcutH]; congr 1; simp
      have M1 := Lib.hid n1
      have M2 := Lib.hid n2
      have M3 := Lib.hid n3
      have HC := Lib.hid hcutH
      have ZS := Lib.hid zs
      clear n1 n2 n3 zs hcutH
      obtain ⟨R, hR⟩ : ∃ r : Nat, a % 20 = (r : Int) := ⟨(a % 20).toNat, by omega⟩
      have hR20 : R < 20 := by omega
      have r1 : a.tmod 20 = (R : Int) := by rw [Int.tmod_eq_emod_of_nonneg ha.1]; exact hR
      have r2 : IntKind.u8.wrap (R : Int) = (R : Int) := by rw [IntKind.wrap_u8]; omega
      have r3 : IntKind.i64.wrap (R : Int) = (R : Int) := by rw [IntKind.wrap_i64]; omega
      obtain ⟨S6, hS6⟩ : ∃ q, (ByteArray.mk #[45]) ++ (ByteArray.mk T.toArray) = q := ⟨_, rfl⟩
      obtain ⟨S7, hS7⟩ : ∃ q, (ByteArray.mk #[45]) ++ S1 = q := ⟨_, rfl⟩
      have g1 : Hid (S6.size ≤ 1000000) := Lib.hid (by rw [← hS6, ByteArray.size_append, ZS.out]; show 1 + T.length ≤ _; omega)
      have g2 : Hid (S7.size ≤ 1000000) := Lib.hid (by rw [← hS7, ByteArray.size_append, z1]; show 1 + (1 + T.length) ≤ _; omega)
      have g3 : Hid (S1.size ≤ 1000000) := Lib.hid (by omega)
      obtain ⟨N, hN⟩ : ∃ q, (18446744073709551616 - m) % 18446744073709551616 = q := ⟨_, rfl⟩
      have G1 : Hid (Ltr.numF S6.data.toList 64 = ((N : Int), 0)) := Lib.hid (by rw [← hS6, ← hN, ← N6.out]; congr 1)
      have G2 : Hid (Ltr.numF S7.data.toList 64 = (0, 4)) := Lib.hid (by rw [← hS7, ← hS1, ← N7.out]; congr 1)
      have G3 : Hid (Ltr.natF S1.data.toList 9223372036854775807 = (0, 4)) := Lib.hid (by rw [← hS1, ← N9.out]; congr 1)
      have k3 : IntKind.u64.wrap (-(m : Int)) = (N : Int) := by rw [IntKind.wrap_u64]; omega
      have k5 : IntKind.i64.wrap (m : Int) = (m : Int) := by rw [IntKind.wrap_i64]; omega
      have f6 : ¬ 9223372036854775807 < 1 + S1.size := by omega
      clear hN N1 N2 N3 N6 N7 N9
      rcases (by omega : T.length = 1 ∨ T.length = 2 ∨ 2 < T.length) with hlen | hlen | hlen
      · have i1 : (T.length : Int) ≤ 2 := by omega
        have i3 : (T.length : Int) ≤ 1 := by omega
        have i4 : 1 ≤ (T.length : Int) := by omega
        go_wp2_with fail
        go_still_tail 11, (by kernel_rfl)
        change wpList _ _ _ _ _ (w1.drewN (q + 1))
        go_wp2_with fail
        have hown2 := World.ownsRow_lit (base := w1.heap.size) (e := 9) (size := 1) (w1.drewN (q + 1)) #[.string S1, .string S2, .string S3] 3 (Nat.le_refl _) (by unfold maxLen; omega) rfl
        have hbel2 := (hb1.trans ((below_drewN w1 (q + 1)).mono hs1)).alloc (show w.heap.size ≤ (w1.drewN (q + 1)).heap.size from hs1) (.cells #[.string S1, .string S2, .string S3] 9)
        have hsz2 : w1.heap.size ≤ ((w1.drewN (q + 1)).alloc (.cells #[.string S1, .string S2, .string S3] 9)).heap.size := by simp
        obtain ⟨W2, hW2⟩ : ∃ W, (w1.drewN (q + 1)).alloc (.cells #[.string S1, .string S2, .string S3] 9) = W := ⟨_, rfl⟩
        rw [hW2] at hown2 hbel2 hsz2 ⊢
        have hh : (w1.drewN (q + 1)).heap.size = w1.heap.size := rfl
        rw [hh] at hown2
        clear hW2 hh
        go_loopw [12, 13] (fun zv iv wr => ∃ k : Nat, k ≤ R ∧ iv = .int .i64 k ∧ zv = .string ⟨(Ltr.nz k).toArray⟩ ∧ wr = W2) (fun _ iv _ => R - (intOf iv).toNat)
        case atStart => exact ⟨0, by omega, rfl, rfl, rfl⟩
        case round =>
          obtain ⟨k, hk, rfl, rfl, rfl⟩ := hrel
          by_cases hkR : k < R
          · have j2 : (k : Int) < (R : Int) := by omega
            have hzl : (Ltr.nz k).length ≤ 20 := by simp [Ltr.nz]; omega
            have HZ := Lib.hid (show Ltr.nz k ++ [48] = Ltr.nz (k + 1) from by unfold Ltr.nz; rw [List.replicate_succ'])
            obtain ⟨Z, hZ⟩ : ∃ z, Ltr.nz k = z := ⟨_, rfl⟩
            rw [hZ] at HZ hzl ⊢
            clear hZ
            go_wp2_with fail
            go_roundw
            case rel => exact ⟨k + 1, by omega, by go_num, by rw [← HZ.out]; exact congrArg Value.string (ba_app Z [48]), by trivial⟩
            case measure => simp [intOf]; omega
          · obtain rfl : k = R := by omega
            have hzl : (Ltr.nz k).length ≤ 20 := by simp [Ltr.nz]; omega
            have N4k := Lib.hid (N4.out k)
            have N8k := Lib.hid (N8.out k)
            clear N4 N8
            obtain ⟨Z, hZ⟩ : ∃ z, Ltr.nz k = z := ⟨_, rfl⟩
            rw [hZ] at N4k N8k hzl ⊢
            clear hZ
            obtain ⟨S4, hS4⟩ : ∃ q, (ByteArray.mk Z.toArray) ++ (ByteArray.mk T.toArray) = q := ⟨_, rfl⟩
            have y4 : S4.size ≤ 1000000 := by rw [← hS4, ByteArray.size_append, ZS.out, ZS.out]; omega
            have M4 : Hid (Ltr.numF S4.data.toList 64 = ((m : Int), 0)) := Lib.hid (by rw [← hS4, ← N4k.out]; congr 1)
            have M8 : Hid (Ltr.natF S4.data.toList 9223372036854775807 = ((m : Int), 0)) := Lib.hid (by rw [← hS4, ← N8k.out]; congr 1)
            have Y4 := Lib.hid y4
            clear y4
            have f4 : ¬ 9223372036854775807 < Z.length + T.length := by omega
            have j2 : (k : Int) ≤ (k : Int) := by omega
            obtain ⟨i0, hj0, hz0, hz1, hz2⟩ := info_parts info_string
            go_wp2_with (at_builtin; (refine app_one wr #[.string S4] rfl (.tmp 80) (.tmp 84) 40 rfl w1.heap.size 9 i0 _ 1 16 Tryd.underlying40 hj0 hz0 hz1 hz2 rfl (by omega) rfl (one_str rfl) _ 3 _ rfl hown2 wr.heap.size rfl rfl (by omega) (by omega) hsz2 ?_); intro A4 c4 W4 hown4 hg4 hat4; have hbo4 := below_own hown2 hg4 hsz2; have hbel4 := hbel2.trans (hbo4.mono hs1); have hsz4 := hbo4.size)
            have HL : Hid (∀ S ∈ [S1, S2, S3, S4], Ltr.numF S.data.toList 64 = ((m : Int), 0) ∧ S.size ≤ 1000000) := Lib.hid (by
              intro S hS
              simp only [List.mem_cons, List.not_mem_nil, or_false] at hS
              rcases hS with rfl | rfl | rfl | rfl
              · exact ⟨M1.out, by omega⟩
              · exact ⟨M2.out, by omega⟩
              · exact ⟨M3.out, by omega⟩
              · exact ⟨M4.out, Y4.out⟩
            )
            have hown : W4.ownsRow w1.heap.size 9 1 (.slice A4 4 c4) 4 (([S1, S2, S3, S4] : List ByteArray).map Value.string) := hown4
            have hbelW : Below w.heap.size w W4 := hbel4
            have hcL : ([S1, S2, S3, S4] : List ByteArray).length = 4 := rfl
            have hc0 : ([S1, S2, S3, S4] : List ByteArray)[0]? = some S1 := rfl
            have hrd := Reads.of_own hown
            clear hown hown4
            obtain ⟨L, hL⟩ : ∃ l : List ByteArray, [S1, S2, S3, S4] = l := ⟨_, rfl⟩
            rw [hL] at HL hrd hcL hc0
            clear hL
            go_loopw [14] (fun iv wr => ∃ i q : Nat, i ≤ 4 ∧ iv = .int .i64 i ∧ wr = W4.drewN q) (fun iv _ => 4 - (intOf iv).toNat)
            case atStart => exact ⟨0, 0, by omega, rfl, rfl⟩
            case round =>
              obtain ⟨i, q2, hi, rfl, rfl⟩ := hrel
              have p0 : (0 : Int) ≤ (i : Int) := by omega
              by_cases hin : i < 4
              · have j3 : (i : Int) < 4 := by omega
                obtain ⟨ad, u, rfl, hblk, hu, hcell⟩ := hrd.at_ hin
                rw [List.getElem?_map, List.getElem?_eq_getElem (by omega : i < L.length)] at hu
                obtain ⟨S, hS⟩ : ∃ S, L[i]'(by omega) = S := ⟨_, rfl⟩
                have hmem := HL.out S (by rw [← hS]; exact List.getElem_mem _)
                rw [hS] at hu
                cases hu
                have MS := Lib.hid hmem
                clear hmem hS
                go_wp2_with (go_at_call 16; refine (HN.out _ _ MS.out.2).mono ?_; rintro e4 w4 ⟨rfl, q4, rfl⟩; simp only [MS.out.1])
                go_roundw
                case rel => exact ⟨i + 1, _, by omega, by go_num, rfl⟩
                case measure => simp [intOf]; omega
              · obtain rfl : i = 4 := by omega
                obtain ⟨ad, u, rfl, hblk, hu, hcell⟩ := hrd.at_ (k := 0) (by omega)
                rw [List.getElem?_map, hc0] at hu
                cases hu
                rw [show ad.add 0 = ad from by simp [Addr.add]] at hcell
                go_wp2_with (first
                  | (go_at_call 16; refine (HN.out _ _ (by first | with_reducible exact g1.out | with_reducible exact g2.out)).mono ?_; rintro e4 w4 ⟨rfl, q4, rfl⟩; simp only [G1.out, G2.out])
                  | (go_at_call 18; refine (HNat.out _ _ (by first | with_reducible exact Y4.out | with_reducible exact g3.out)).mono ?_; rintro e4 w4 ⟨rfl, q4, rfl⟩; simp only [M8.out, G3.out])
                  | (go_at_call 11; refine (HA.out _ ((ht.below hbelW).drewN _)).mono ?_; rintro e5 w5 ⟨rfl, hb5⟩))
                go_ret
                exact ⟨rfl, hbelW.trans (((below_drewN W4 _).trans hb5).mono hbelW.size)⟩
      · have i1 : (T.length : Int) ≤ 2 := by omega
        have i3 : 1 < (T.length : Int) := by omega
        have i4 : 1 ≤ (T.length : Int) := by omega
        obtain ⟨S0, hS0⟩ : ∃ q, (ByteArray.mk (List.take 1 T).toArray) ++ (ByteArray.mk #[95]) = q := ⟨_, rfl⟩
        obtain ⟨S5, hS5⟩ : ∃ q, S0 ++ (ByteArray.mk (List.take 1 T.tail).toArray) = q := ⟨_, rfl⟩
        have HD : Hid (List.take 1 T.tail = List.drop 1 T) := Lib.hid (by rw [List.drop_one]; exact List.take_of_length_le (by simp; omega))
        have z0 : S0.size = 2 := by rw [← hS0, ByteArray.size_append, ZS.out]; show (List.take 1 T).length + 1 = _; rw [List.length_take]; omega
        have y5 : S5.size ≤ 1000000 := by rw [← hS5, ByteArray.size_append, z0, ZS.out, HD.out]; simp; omega
        have M5 : Hid (Ltr.numF S5.data.toList 64 = ((m : Int), 0)) := Lib.hid (by rw [← hS5, ← hS0, HD.out, ← N5.out 1 (by omega) (by omega)]; congr 1; simp)
        have Y5 := Lib.hid y5
        clear y5
        go_wp2_with fail
        go_still_tail 11, (by kernel_rfl)
        change wpList _ _ _ _ _ (w1.drewN (q + 1))
        go_wp2_with fail
        have hown2 := World.ownsRow_lit (base := w1.heap.size) (e := 9) (size := 1) (w1.drewN (q + 1)) #[.string S1, .string S2, .string S3] 3 (Nat.le_refl _) (by unfold maxLen; omega) rfl
        have hbel2 := (hb1.trans ((below_drewN w1 (q + 1)).mono hs1)).alloc (show w.heap.size ≤ (w1.drewN (q + 1)).heap.size from hs1) (.cells #[.string S1, .string S2, .string S3] 9)
        have hsz2 : w1.heap.size ≤ ((w1.drewN (q + 1)).alloc (.cells #[.string S1, .string S2, .string S3] 9)).heap.size := by simp
        obtain ⟨W2, hW2⟩ : ∃ W, (w1.drewN (q + 1)).alloc (.cells #[.string S1, .string S2, .string S3] 9) = W := ⟨_, rfl⟩
        rw [hW2] at hown2 hbel2 hsz2 ⊢
        have hh : (w1.drewN (q + 1)).heap.size = w1.heap.size := rfl
        rw [hh] at hown2
        clear hW2 hh
        go_loopw [12, 13] (fun zv iv wr => ∃ k : Nat, k ≤ R ∧ iv = .int .i64 k ∧ zv = .string ⟨(Ltr.nz k).toArray⟩ ∧ wr = W2) (fun _ iv _ => R - (intOf iv).toNat)
        case atStart => exact ⟨0, by omega, rfl, rfl, rfl⟩
        case round =>
          obtain ⟨k, hk, rfl, rfl, rfl⟩ := hrel
          by_cases hkR : k < R
          · have j2 : (k : Int) < (R : Int) := by omega
            have hzl : (Ltr.nz k).length ≤ 20 := by simp [Ltr.nz]; omega
            have HZ := Lib.hid (show Ltr.nz k ++ [48] = Ltr.nz (k + 1) from by unfold Ltr.nz; rw [List.replicate_succ'])
            obtain ⟨Z, hZ⟩ : ∃ z, Ltr.nz k = z := ⟨_, rfl⟩
            rw [hZ] at HZ hzl ⊢
            clear hZ
            go_wp2_with fail
            go_roundw
            case rel => exact ⟨k + 1, by omega, by go_num, by rw [← HZ.out]; exact congrArg Value.string (ba_app Z [48]), by trivial⟩
            case measure => simp [intOf]; omega
          · obtain rfl : k = R := by omega
            have hzl : (Ltr.nz k).length ≤ 20 := by simp [Ltr.nz]; omega
            have N4k := Lib.hid (N4.out k)
            have N8k := Lib.hid (N8.out k)
            clear N4 N8
            obtain ⟨Z, hZ⟩ : ∃ z, Ltr.nz k = z := ⟨_, rfl⟩
            rw [hZ] at N4k N8k hzl ⊢
            clear hZ
            obtain ⟨S4, hS4⟩ : ∃ q, (ByteArray.mk Z.toArray) ++ (ByteArray.mk T.toArray) = q := ⟨_, rfl⟩
            have y4 : S4.size ≤ 1000000 := by rw [← hS4, ByteArray.size_append, ZS.out, ZS.out]; omega
            have M4 : Hid (Ltr.numF S4.data.toList 64 = ((m : Int), 0)) := Lib.hid (by rw [← hS4, ← N4k.out]; congr 1)
            have M8 : Hid (Ltr.natF S4.data.toList 9223372036854775807 = ((m : Int), 0)) := Lib.hid (by rw [← hS4, ← N8k.out]; congr 1)
            have Y4 := Lib.hid y4
            clear y4
            have f4 : ¬ 9223372036854775807 < Z.length + T.length := by omega
            have j2 : (k : Int) ≤ (k : Int) := by omega
            obtain ⟨i0, hj0, hz0, hz1, hz2⟩ := info_parts info_string
            go_wp2_with (at_builtin; (refine app_one wr #[.string S4] rfl (.tmp 80) (.tmp 84) 40 rfl w1.heap.size 9 i0 _ 1 16 Tryd.underlying40 hj0 hz0 hz1 hz2 rfl (by omega) rfl (one_str rfl) _ 3 _ rfl hown2 wr.heap.size rfl rfl (by omega) (by omega) hsz2 ?_); intro A4 c4 W4 hown4 hg4 hat4; have hbo4 := below_own hown2 hg4 hsz2; have hbel4 := hbel2.trans (hbo4.mono hs1); have hsz4 := hbo4.size)
            go_region_law (refine step_append_lies _ (by rfl) (.tmp 89) (.tmp 98) 40 (by rfl) w1.heap.size 9 i0 _ 1 16 Tryd.underlying40 hj0 hz0 hz1 hz2 rfl (by omega) (.slice A4 4 c4) 4 _ (by rfl) (hown4.alloc _) ⟨W4.heap.size, 0, none⟩ 1 1 _ (by rfl) (by rfl) (World.news_of_block (heap_alloc_new W4 _)) (one_str rfl) (by omega) (by unfold maxLen; omega) (by omega) (by simp; omega) (W4.heap.size + 1) (by simp) ?_; intro gg cap W5 hown5 hg5 hat5 hlt5)
            go_wp2_with fail
            have hbel5 := hbel4.trans ((below_own hown4 (grown_alloc_first (w := W4) (grown_undrew hg5)) (show w1.heap.size ≤ W4.heap.size by omega)).mono hs1)
            clear hg5 hat5 hlt5
            obtain ⟨AD, hAD⟩ : ∃ x : Option Addr, some ⟨gg, 0, none⟩ = x := ⟨_, rfl⟩
            rw [hAD] at hown5 ⊢
            clear hAD
            have HL : Hid (∀ S ∈ [S1, S2, S3, S4, S5], Ltr.numF S.data.toList 64 = ((m : Int), 0) ∧ S.size ≤ 1000000) := Lib.hid (by
              intro S hS
              simp only [List.mem_cons, List.not_mem_nil, or_false] at hS
              rcases hS with rfl | rfl | rfl | rfl | rfl
              · exact ⟨M1.out, by omega⟩
              · exact ⟨M2.out, by omega⟩
              · exact ⟨M3.out, by omega⟩
              · exact ⟨M4.out, Y4.out⟩
              · exact ⟨M5.out, Y5.out⟩)
            have hown : W5.ownsRow w1.heap.size 9 1 (.slice AD 5 cap) 5 (([S1, S2, S3, S4, S5] : List ByteArray).map Value.string) := hown5
            have hbelW : Below w.heap.size w W5 := hbel5
            have hcL : ([S1, S2, S3, S4, S5] : List ByteArray).length = 5 := rfl
            have hc0 : ([S1, S2, S3, S4, S5] : List ByteArray)[0]? = some S1 := rfl
            have hrd := Reads.of_own hown
            clear hown hown4 hown5
            obtain ⟨L, hL⟩ : ∃ l : List ByteArray, [S1, S2, S3, S4, S5] = l := ⟨_, rfl⟩
            rw [hL] at HL hrd hcL hc0
            clear hL
            go_loopw [14] (fun iv wr => ∃ i q : Nat, i ≤ 5 ∧ iv = .int .i64 i ∧ wr = W5.drewN q) (fun iv _ => 5 - (intOf iv).toNat)
            case atStart => exact ⟨0, 0, by omega, rfl, rfl⟩
            case round =>
              obtain ⟨i, q2, hi, rfl, rfl⟩ := hrel
              have p0 : (0 : Int) ≤ (i : Int) := by omega
              by_cases hin : i < 5
              · have j3 : (i : Int) < 5 := by omega
                obtain ⟨ad, u, rfl, hblk, hu, hcell⟩ := hrd.at_ hin
                rw [List.getElem?_map, List.getElem?_eq_getElem (by omega : i < L.length)] at hu
                obtain ⟨S, hS⟩ : ∃ S, L[i]'(by omega) = S := ⟨_, rfl⟩
                have hmem := HL.out S (by rw [← hS]; exact List.getElem_mem _)
                rw [hS] at hu
                cases hu
                have MS := Lib.hid hmem
                clear hmem hS
                go_wp2_with (go_at_call 16; refine (HN.out _ _ MS.out.2).mono ?_; rintro e4 w4 ⟨rfl, q4, rfl⟩; simp only [MS.out.1])
                go_roundw
                case rel => exact ⟨i + 1, _, by omega, by go_num, rfl⟩
                case measure => simp [intOf]; omega
              · obtain rfl : i = 5 := by omega
                obtain ⟨ad, u, rfl, hblk, hu, hcell⟩ := hrd.at_ (k := 0) (by omega)
                rw [List.getElem?_map, hc0] at hu
                cases hu
                rw [show ad.add 0 = ad from by simp [Addr.add]] at hcell
                go_wp2_with (first
                  | (go_at_call 16; refine (HN.out _ _ (by first | with_reducible exact g1.out | with_reducible exact g2.out)).mono ?_; rintro e4 w4 ⟨rfl, q4, rfl⟩; simp only [G1.out, G2.out])
                  | (go_at_call 18; refine (HNat.out _ _ (by first | with_reducible exact Y4.out | with_reducible exact g3.out)).mono ?_; rintro e4 w4 ⟨rfl, q4, rfl⟩; simp only [M8.out, G3.out])
                  | (go_at_call 11; refine (HA.out _ ((ht.below hbelW).drewN _)).mono ?_; rintro e5 w5 ⟨rfl, hb5⟩))
                go_ret
                exact ⟨rfl, hbelW.trans (((below_drewN W5 _).trans hb5).mono hbelW.size)⟩
      · have i1 : 2 < (T.length : Int) := by omega
        have i3 : 1 < (T.length : Int) := by omega
        have i4 : 1 ≤ (T.length : Int) := by omega
        have i5 : (T.length : Int) - 1 ≠ 0 := by omega
        obtain ⟨r, hr⟩ : ∃ r : Nat, b % ((T.length : Int) - 1) = (r : Int) := ⟨(b % ((T.length : Int) - 1)).toNat, by have := Int.emod_nonneg b i5; omega⟩
        have hrl := Int.emod_lt_of_pos b (show (0 : Int) < (T.length : Int) - 1 by omega)
        have r4 : b.tmod ((T.length : Int) - 1) = (r : Int) := by rw [Int.tmod_eq_emod_of_nonneg hb.1]; exact hr
        have r5 : IntKind.i64.wrap (r : Int) = (r : Int) := by rw [IntKind.wrap_i64]; omega
        obtain ⟨K, hKr⟩ : ∃ K : Nat, 1 + (r : Int) = (K : Int) := ⟨1 + r, by omega⟩
        have hK1 : 1 ≤ K := by omega
        have hK2 : K < T.length := by omega
        have r6 : IntKind.i64.wrap (1 + (r : Int)) = (K : Int) := by rw [IntKind.wrap_i64]; omega
        have r7 : (K : Int) ≤ (T.length : Int) := by omega
        clear hr hrl
        have f7 : ¬ 9223372036854775807 < min K T.length + 1 := by omega
        have f8 : ¬ 9223372036854775807 < K + 1 + (T.length - K) := by omega
        obtain ⟨S0, hS0⟩ : ∃ q, (ByteArray.mk (List.take K T).toArray) ++ (ByteArray.mk #[95]) = q := ⟨_, rfl⟩
        obtain ⟨S5, hS5⟩ : ∃ q, S0 ++ (ByteArray.mk (List.take (T.length - K) (List.drop K T)).toArray) = q := ⟨_, rfl⟩
        have HD : Hid (List.take (T.length - K) (List.drop K T) = List.drop K T) := Lib.hid (List.take_of_length_le (by simp))
        have z0 : S0.size = K + 1 := by rw [← hS0, ByteArray.size_append, ZS.out]; show (List.take K T).length + 1 = _; rw [List.length_take]; omega
        have y5 : S5.size ≤ 1000000 := by rw [← hS5, ByteArray.size_append, z0, ZS.out, HD.out]; simp; omega
        have M5 : Hid (Ltr.numF S5.data.toList 64 = ((m : Int), 0)) := Lib.hid (by rw [← hS5, ← hS0, HD.out, ← N5.out K hK1 hK2]; congr 1; simp)
        have Y5 := Lib.hid y5
        clear y5
        go_wp2_with fail
        go_still_tail 11, (by kernel_rfl)
        change wpList _ _ _ _ _ (w1.drewN (q + 1))
        go_wp2_with fail
        have hown2 := World.ownsRow_lit (base := w1.heap.size) (e := 9) (size := 1) (w1.drewN (q + 1)) #[.string S1, .string S2, .string S3] 3 (Nat.le_refl _) (by unfold maxLen; omega) rfl
        have hbel2 := (hb1.trans ((below_drewN w1 (q + 1)).mono hs1)).alloc (show w.heap.size ≤ (w1.drewN (q + 1)).heap.size from hs1) (.cells #[.string S1, .string S2, .string S3] 9)
        have hsz2 : w1.heap.size ≤ ((w1.drewN (q + 1)).alloc (.cells #[.string S1, .string S2, .string S3] 9)).heap.size := by simp
        obtain ⟨W2, hW2⟩ : ∃ W, (w1.drewN (q + 1)).alloc (.cells #[.string S1, .string S2, .string S3] 9) = W := ⟨_, rfl⟩
        rw [hW2] at hown2 hbel2 hsz2 ⊢
        have hh : (w1.drewN (q + 1)).heap.size = w1.heap.size := rfl
        rw [hh] at hown2
        clear hW2 hh
        go_loopw [12, 13] (fun zv iv wr => ∃ k : Nat, k ≤ R ∧ iv = .int .i64 k ∧ zv = .string ⟨(Ltr.nz k).toArray⟩ ∧ wr = W2) (fun _ iv _ => R - (intOf iv).toNat)
        case atStart => exact ⟨0, by omega, rfl, rfl, rfl⟩
        case round =>
          obtain ⟨k, hk, rfl, rfl, rfl⟩ := hrel
          by_cases hkR : k < R
          · have j2 : (k : Int) < (R : Int) := by omega
            have hzl : (Ltr.nz k).length ≤ 20 := by simp [Ltr.nz]; omega
            have HZ := Lib.hid (show Ltr.nz k ++ [48] = Ltr.nz (k + 1) from by unfold Ltr.nz; rw [List.replicate_succ'])
            obtain ⟨Z, hZ⟩ : ∃ z, Ltr.nz k = z := ⟨_, rfl⟩
            rw [hZ] at HZ hzl ⊢
            clear hZ
            go_wp2_with fail
            go_roundw
            case rel => exact ⟨k + 1, by omega, by go_num, by rw [← HZ.out]; exact congrArg Value.string (ba_app Z [48]), by trivial⟩
            case measure => simp [intOf]; omega
          · obtain rfl : k = R := by omega
            have hzl : (Ltr.nz k).length ≤ 20 := by simp [Ltr.nz]; omega
            have N4k := Lib.hid (N4.out k)
            have N8k := Lib.hid (N8.out k)
            clear N4 N8
            obtain ⟨Z, hZ⟩ : ∃ z, Ltr.nz k = z := ⟨_, rfl⟩
            rw [hZ] at N4k N8k hzl ⊢
            clear hZ
            obtain ⟨S4, hS4⟩ : ∃ q, (ByteArray.mk Z.toArray) ++ (ByteArray.mk T.toArray) = q := ⟨_, rfl⟩
            have y4 : S4.size ≤ 1000000 := by rw [← hS4, ByteArray.size_append, ZS.out, ZS.out]; omega
            have M4 : Hid (Ltr.numF S4.data.toList 64 = ((m : Int), 0)) := Lib.hid (by rw [← hS4, ← N4k.out]; congr 1)
            have M8 : Hid (Ltr.natF S4.data.toList 9223372036854775807 = ((m : Int), 0)) := Lib.hid (by rw [← hS4, ← N8k.out]; congr 1)
            have Y4 := Lib.hid y4
            clear y4
            have f4 : ¬ 9223372036854775807 < Z.length + T.length := by omega
            have j2 : (k : Int) ≤ (k : Int) := by omega
            obtain ⟨i0, hj0, hz0, hz1, hz2⟩ := info_parts info_string
            go_wp2_with (at_builtin; (refine app_one wr #[.string S4] rfl (.tmp 80) (.tmp 84) 40 rfl w1.heap.size 9 i0 _ 1 16 Tryd.underlying40 hj0 hz0 hz1 hz2 rfl (by omega) rfl (one_str rfl) _ 3 _ rfl hown2 wr.heap.size rfl rfl (by omega) (by omega) hsz2 ?_); intro A4 c4 W4 hown4 hg4 hat4; have hbo4 := below_own hown2 hg4 hsz2; have hbel4 := hbel2.trans (hbo4.mono hs1); have hsz4 := hbo4.size)
            go_region_law (refine step_append_lies _ (by rfl) (.tmp 89) (.tmp 98) 40 (by rfl) w1.heap.size 9 i0 _ 1 16 Tryd.underlying40 hj0 hz0 hz1 hz2 rfl (by omega) (.slice A4 4 c4) 4 _ (by rfl) (hown4.alloc _) ⟨W4.heap.size, 0, none⟩ 1 1 _ (by rfl) (by rfl) (World.news_of_block (heap_alloc_new W4 _)) (one_str rfl) (by omega) (by unfold maxLen; omega) (by omega) (by simp; omega) (W4.heap.size + 1) (by simp) ?_; intro gg cap W5 hown5 hg5 hat5 hlt5)
            go_wp2_with fail
            have hbel5 := hbel4.trans ((below_own hown4 (grown_alloc_first (w := W4) (grown_undrew hg5)) (show w1.heap.size ≤ W4.heap.size by omega)).mono hs1)
            clear hg5 hat5 hlt5
            obtain ⟨AD, hAD⟩ : ∃ x : Option Addr, some ⟨gg, 0, none⟩ = x := ⟨_, rfl⟩
            rw [hAD] at hown5 ⊢
            clear hAD
            have HL : Hid (∀ S ∈ [S1, S2, S3, S4, S5], Ltr.numF S.data.toList 64 = ((m : Int), 0) ∧ S.size ≤ 1000000) := Lib.hid (by
              intro S hS
              simp only [List.mem_cons, List.not_mem_nil, or_false] at hS
              rcases hS with rfl | rfl | rfl | rfl | rfl
              · exact ⟨M1.out, by omega⟩
              · exact ⟨M2.out, by omega⟩
              · exact ⟨M3.out, by omega⟩
              · exact ⟨M4.out, Y4.out⟩
              · exact ⟨M5.out, Y5.out⟩)
            have hown : W5.ownsRow w1.heap.size 9 1 (.slice AD 5 cap) 5 (([S1, S2, S3, S4, S5] : List ByteArray).map Value.string) := hown5
            have hbelW : Below w.heap.size w W5 := hbel5
            have hcL : ([S1, S2, S3, S4, S5] : List ByteArray).length = 5 := rfl
            have hc0 : ([S1, S2, S3, S4, S5] : List ByteArray)[0]? = some S1 := rfl
            have hrd := Reads.of_own hown
            clear hown hown4 hown5
            obtain ⟨L, hL⟩ : ∃ l : List ByteArray, [S1, S2, S3, S4, S5] = l := ⟨_, rfl⟩
            rw [hL] at HL hrd hcL hc0
            clear hL
            go_loopw [14] (fun iv wr => ∃ i q : Nat, i ≤ 5 ∧ iv = .int .i64 i ∧ wr = W5.drewN q) (fun iv _ => 5 - (intOf iv).toNat)
            case atStart => exact ⟨0, 0, by omega, rfl, rfl⟩
            case round =>
              obtain ⟨i, q2, hi, rfl, rfl⟩ := hrel
              have p0 : (0 : Int) ≤ (i : Int) := by omega
              by_cases hin : i < 5
              · have j3 : (i : Int) < 5 := by omega
                obtain ⟨ad, u, rfl, hblk, hu, hcell⟩ := hrd.at_ hin
                rw [List.getElem?_map, List.getElem?_eq_getElem (by omega : i < L.length)] at hu
                obtain ⟨S, hS⟩ : ∃ S, L[i]'(by omega) = S := ⟨_, rfl⟩
                have hmem := HL.out S (by rw [← hS]; exact List.getElem_mem _)
                rw [hS] at hu
                cases hu
                have MS := Lib.hid hmem
                clear hmem hS
                go_wp2_with (go_at_call 16; refine (HN.out _ _ MS.out.2).mono ?_; rintro e4 w4 ⟨rfl, q4, rfl⟩; simp only [MS.out.1])
                go_roundw
                case rel => exact ⟨i + 1, _, by omega, by go_num, rfl⟩
                case measure => simp [intOf]; omega
              · obtain rfl : i = 5 := by omega
                obtain ⟨ad, u, rfl, hblk, hu, hcell⟩ := hrd.at_ (k := 0) (by omega)
                rw [List.getElem?_map, hc0] at hu
                cases hu
                rw [show ad.add 0 = ad from by simp [Addr.add]] at hcell
                go_wp2_with (first
                  | (go_at_call 16; refine (HN.out _ _ (by first | with_reducible exact g1.out | with_reducible exact g2.out)).mono ?_; rintro e4 w4 ⟨rfl, q4, rfl⟩; simp only [G1.out, G2.out])
                  | (go_at_call 18; refine (HNat.out _ _ (by first | with_reducible exact Y4.out | with_reducible exact g3.out)).mono ?_; rintro e4 w4 ⟨rfl, q4, rfl⟩; simp only [M8.out, G3.out])
                  | (go_at_call 11; refine (HA.out _ ((ht.below hbelW).drewN _)).mono ?_; rintro e5 w5 ⟨rfl, hb5⟩))
                go_ret
                exact ⟨rfl, hbelW.trans (((below_drewN W5 _).trans hb5).mono hbelW.size)⟩
end Go.Proofs.YtpmalmednkknpaaDoor
