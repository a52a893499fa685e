import Derived.Test.YtdlabicepppfaaaBytesG
import Derived.Test.YtdlabicepppfaaaMathB
/-! BytesNumbers: the fixed examples come out. -/
namespace Go.Proofs.Ytdlabicepppfaaa
open Go.RowKit
set_option linter.unusedVariables false
set_option linter.unusedSimpArgs false

theorem unseal_seal' (xs : List UInt8) : unsealB (sealB xs) = (xs, 0) := by
  have hl : (sealB xs).length = xs.length + 4 := by simp [sealB, four]
  unfold unsealB
  rw [if_neg (by omega), hl, show xs.length + 4 - 4 = xs.length by omega]
  have h1 : (sealB xs).drop xs.length = four (crc xs) := by unfold sealB; rw [List.drop_left]
  have h2 : (sealB xs).take xs.length = xs := by unfold sealB; rw [List.take_left]
  have h3 := num4_four (crc xs) (crc_lt xs) []
  rw [List.append_nil] at h3
  rw [h1, h2, h3, if_neg (by simp)]

def tenL : List Int := [0, 1, -1, 63, 64, -64, -65, 9223372036854775807, -9223372036854775808, -9223372036854775807]
theorem tenL_at (i : Nat) (hi : i < 10) : ∃ z, tenL[i]? = some z ∧ -9223372036854775808 ≤ z ∧ z ≤ 9223372036854775807 := by
  rcases i with _ | _ | _ | _ | _ | _ | _ | _ | _ | _ | i <;> first | exact ⟨_, rfl, by decide, by decide⟩ | (exfalso; omega)

set_option maxRecDepth 100000 in
set_option maxHeartbeats 2000000 in
theorem bytesNumbers_c (w : World) : Calls Try.prog 8 #[] w (RetT w) := by
  have kc := run_convert_const (P := Try.prog) 24 5 Try.underlying24 Try.underlying5
  go_enter Try.func8, Try.ntmps8
  go_wp2_with fail
  go_loopg [4, 5, 6, 7, 8, 46] 10 (fun q v4 v5 v6 v7 v8 v46 w' => ∃ i : Nat, v46 = .int .i64 i ∧ i ≤ 10 ∧ q = 10 - i ∧ Hid (Blk w' w.heap.size 2 (tenL.map (Value.int .i64)).toArray) ∧ Hid (Fr No w w'))
  case atStart => exact ⟨0, rfl, by omega, rfl, Blk.new w _ _, (Fr.refl No w).alloc _⟩
  case round =>
    obtain ⟨i, rfl, hi, hq, HB, HF⟩ := hrel
    have HQ := hid hq
    clear hq
    by_cases d1 : i < 10
    · obtain ⟨z, hz, hz1, hz2⟩ := tenL_at i d1
      have kc : wr.cell? ⟨w.heap.size, i, none⟩ = some (.int .i64 z) := by
        rw [HB.out.cell i]
        simp [hz]
      have HZ1 := hid hz1
      have HZ2 := hid hz2
      have i10 : (i : Int) < 10 := by omega
      obtain ⟨l1, hl1⟩ : ∃ l, (varint (zz z)).length = l := ⟨_, rfl⟩
      have HG := hid (show getU ([7] ++ varint (zz z)) 1 = (zz z, 1 + l1, 0) by
        have h := getU_at [7] [] (zz z) (zz_lt hz1 hz2)
        rw [List.append_nil, hl1] at h
        exact h)
      have hbl : ([7] ++ varint (zz z)).length = l1 + 1 := by rw [List.length_append, hl1]; simp; omega
      have HBL0 := hid hbl
      obtain ⟨V, hV⟩ : ∃ V, [7] ++ varint (zz z) = V := ⟨_, rfl⟩
      have HVV := hid hV
      have HBL := hid (show V.length = l1 + 1 by rw [← hV]; exact hbl)
      rw [hV] at HG
      have b1 : l1 ≤ 10 := by rw [← hl1]; exact varint_len64 (zz_lt hz1 hz2)
      have HZZ := hid (unzz_zz z)
      clear hz hz1 hz2 hl1 hbl hV
      go_wp2_with fail
      refine (int_c _ [7] z HZ1.out HZ2.out _ (OwnB.lit_ _ _ _ _ _ rfl rfl (by simp [maxLen]) _ (by first | rfl | simp)) (by simp)).mono ?_
      rintro e w1 ⟨v1, rfl, A, B, C⟩
      rw [HVV.out] at A
      have FR1 : Fr No wr w1 := ((Fr.refl No wr).alloc _).fresh B (fun k hk => by have h := Of_some.1 hk; simp at h; omega)
      have F1 := hid (HF.out.fresh_no FR1)
      have HB1 := hid (HB.out.keep FR1 (not_no _))
      clear FR1
      obtain ⟨A1, c1, rfl, hc1⟩ := A.slice
      have O1 := hid A
      have hlI : (V.length : Int) = (l1 : Int) + 1 := by rw [HBL.out]; omega
      clear A B C kc
      go_wp2_with fail
      refine (getInt_c _ V _ _ O1.out.rd (by rw [HBL.out]; omega) _ HG.out).mono ?_
      rintro e wx ⟨he, rfl⟩
      simp only [HZZ.out] at he
      subst he
      go_wp2_with fail
      refine (int_ref _ [7] z HZ1.out HZ2.out _ (RdB.lit_ _ _ _ _ _ rfl rfl _ (by first | rfl | simp)) (by simp)).mono ?_
      rintro e w2 ⟨v2, rfl, A, B, C⟩
      rw [HVV.out] at A
      have O2 := hid A
      have FR2 : Fr No wx w2 := ((Fr.refl No wx).alloc _).fresh_no B
      have F2 := hid (F1.out.fresh_no FR2)
      have HB2 := hid (HB1.out.keep FR2 (not_no _))
      have O12 := hid (O1.out.keep FR2 (fun k _ => not_no k))
      clear FR2
      clear A B C
      go_wp2_with fail
      refine (same_yes _ _ V _ O12.out.rd O2.out.rd).mono ?_
      rintro e wx ⟨rfl, rfl⟩
      go_wp2_with fail
      go_roundg (10 - (i + 1))
      case measure => have := HQ.out; omega
      case rel => exact ⟨i + 1, by go_num, by omega, rfl, HB2, F2⟩
    · have hie : i = 10 := by omega
      subst hie
      clear HQ HB
      have nn : ∀ (w : World), getU [] (-1) = (0, 0, 2) := fun _ => by decide
      go_wp2_with fail
      refine (getUint_c _ [255, 255, 255, 255, 255, 255, 255, 255, 255, 1] _ _ (RdB.lit_ _ _ _ _ _ rfl rfl _ (by first | rfl | simp)) (by simp) (18446744073709551615, 10, 0) (by decide +kernel)).mono ?_
      rintro e wx ⟨rfl, rfl⟩
      go_wp2_with fail
      refine (wrong_c _ [255, 255, 255, 255, 255, 255, 255, 255, 255, 2] _ 10 (by rfl) (by omega) _ (RdB.lit_ _ _ _ _ _ rfl rfl _ (by first | rfl | simp)) (by simp) (by decide +kernel)).mono ?_
      rintro e wx ⟨rfl, rfl⟩
      go_wp2_with fail
      refine (wrong_c _ [255, 255, 255, 255, 255, 255, 255, 255, 255, 128] _ 10 (by rfl) (by omega) _ (RdB.lit_ _ _ _ _ _ rfl rfl _ (by first | rfl | simp)) (by simp) (by decide +kernel)).mono ?_
      rintro e wx ⟨rfl, rfl⟩
      go_wp2_with fail
      refine (wrong_c _ [255, 255, 255, 255, 255, 255, 255, 255, 255] _ 11 (by rfl) (by omega) _ (RdB.lit_ _ _ _ _ _ rfl rfl _ (by first | rfl | simp)) (by simp) (by decide +kernel)).mono ?_
      rintro e wx ⟨rfl, rfl⟩
      go_wp2_with fail
      refine (wrong_c _ [] _ 11 (by rfl) (by omega) _ (RdB.nil _) (by simp) (by decide +kernel)).mono ?_
      rintro e wx ⟨rfl, rfl⟩
      go_wp2_with fail
      refine (wrong_c _ [129, 0] _ 10 (by rfl) (by omega) _ (RdB.lit_ _ _ _ _ _ rfl rfl _ (by first | rfl | simp)) (by simp) (by decide +kernel)).mono ?_
      rintro e wx ⟨rfl, rfl⟩
      go_wp2_with fail
      refine (getUint_c _ [] _ _ (RdB.nil _) (by simp) (0, 0, 2) (by decide +kernel)).mono ?_
      rintro e wx ⟨rfl, rfl⟩
      go_wp2_with fail
      refine (getUint_c _ [] _ _ (RdB.nil _) (by simp) (0, 0, 2) (by decide +kernel)).mono ?_
      rintro e wx ⟨rfl, rfl⟩
      go_wp2_with fail
      refine (getBlob_short _ [3, 1, 2] _ _ _ (RdB.lit_ _ _ _ _ _ rfl rfl _ (by first | rfl | simp)) (by simp) 3 1 (by decide +kernel) (by omega) (by omega) (by simp) (by simp)).mono ?_
      rintro e w1 ⟨v1, rfl, A, B, C⟩
      have F1 := hid (show Fr No w w1 from (((((((HF.out).alloc _).alloc _).alloc _).alloc _).alloc _).alloc _).fresh_no B)
      clear A B C
      go_wp2_with fail
      refine (getBlob_long _ [3, 1, 2, 3] _ _ _ (RdB.lit_ _ _ _ _ _ rfl rfl _ (by first | rfl | simp)) (by simp) 3 1 (by decide +kernel) (by omega) (by omega)).mono ?_
      rintro e w2 ⟨v2, rfl, A, B, C⟩
      have F2 := hid (show Fr No w w2 from ((F1.out).alloc _).fresh_no B)
      clear A B C
      go_wp2_with fail
      refine (getBlob_long _ [0] _ _ _ (RdB.lit_ _ _ _ _ _ rfl rfl _ (by first | rfl | simp)) (by simp) 0 1 (by decide +kernel) (by omega) (by omega)).mono ?_
      rintro e w3 ⟨v3, rfl, A, B, C⟩
      have F3 := hid (show Fr No w w3 from ((F2.out).alloc _).fresh_no B)
      clear A B C
      go_wp2_with fail
      refine (getBlob_long _ [255, 255, 255, 255, 255, 255, 255, 255, 255, 1] _ _ _ (RdB.lit_ _ _ _ _ _ rfl rfl _ (by first | rfl | simp)) (by simp) 18446744073709551615 10 (by decide +kernel) (by omega) (by omega)).mono ?_
      rintro e w4 ⟨v4, rfl, A, B, C⟩
      have F4 := hid (show Fr No w w4 from ((F3.out).alloc _).fresh_no B)
      clear A B C
      go_wp2_with fail
      refine (getBlob_ok _ [9, 2, 5, 6, 7] _ _ _ (RdB.lit_ _ _ _ _ _ rfl rfl _ (by first | rfl | simp)) (by simp) 2 2 (by decide +kernel) (by omega) (by omega) (by omega) (by simp)).mono ?_
      rintro e w5 ⟨v5, rfl, A, B, C⟩
      have O5 := hid (show OwnB 5 w5 v5 [5, 6] from A)
      have F5 := hid (show Fr No w w5 from ((F4.out).alloc _).fresh_no B)
      clear A B C
      go_wp2_with fail
      refine (unseal_c _ [0, 0, 0] _ (RdB.lit_ _ _ _ _ _ rfl rfl _ (by first | rfl | simp)) (by simp) ([], 11) (by decide +kernel)).mono ?_
      rintro e w6 ⟨v6, rfl, A, B, C⟩
      have F56 := hid (show Fr No w5 w6 from ((Fr.refl No w5).alloc _).fresh_no B)
      clear A B C
      go_wp2_with fail
      refine (unseal_c _ [0, 0, 0, 1] _ (RdB.lit_ _ _ _ _ _ rfl rfl _ (by first | rfl | simp)) (by simp) ([], 12) (by decide +kernel)).mono ?_
      rintro e w7 ⟨v7, rfl, A, B, C⟩
      have F57 := hid (show Fr No w5 w7 from (F56.out.alloc _).fresh_no B)
      clear A B C
      go_wp2_with fail
      refine (seal_c _ [97, 98, 99] _ (RdB.lit_ _ _ _ _ _ rfl rfl _ (by first | rfl | simp)) (by simp)).mono ?_
      rintro e w8 ⟨v8, rfl, A, B, C⟩
      have O8 := hid A
      have F58 := hid (show Fr No w5 w8 from (F57.out.alloc _).fresh_no B)
      clear A B C
      go_wp2_with fail
      refine (unseal_c _ (sealB [97, 98, 99]) _ O8.out.rd (by simp [sealB, four]) ([97, 98, 99], 0) (unseal_seal' _)).mono ?_
      rintro e w9 ⟨v9, rfl, A, B, C⟩
      have O9 := hid A
      have F59 := hid (show Fr No w5 w9 from (F58.out).fresh_no B)
      have F9 := hid (show Fr No w w9 from F5.out.fresh_no F59.out)
      have O59 := hid (O5.out.keep F59.out (fun k _ => not_no k))
      clear A B C
      go_wp2_with fail
      refine (is_c _ _ [5, 6] [5, 6] _ (O59.out.alloc _).rd (RdB.lit_ _ _ _ _ _ rfl rfl _ (by first | rfl | simp)) true rfl).mono ?_
      rintro e wx ⟨rfl, rfl⟩
      have k1 := fun o => run_convert_bytes (P := Try.prog) (w9.alloc o) 24 5 Try.underlying24 Try.underlying5 v9 [97, 98, 99] (O9.out.alloc _).rd 9 Try.underlying9
      have ks : (strOf [97, 98, 99]).toList = [97, 98, 99] := by rw [ByteArray.toList_eq]; rfl
      go_wp2_with fail
      refine (awake_c _).mono ?_
      rintro e wA ⟨rfl, B⟩
      have FA := hid (show Fr No w wA from (F9.out.alloc _).fresh_no B)
      clear B
      go_wp2_with fail
      go_ret
      exact ⟨rfl, FA.out⟩
end Go.Proofs.Ytdlabicepppfaaa
