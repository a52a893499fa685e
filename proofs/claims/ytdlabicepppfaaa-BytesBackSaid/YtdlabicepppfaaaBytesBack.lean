import Derived.Test.YtdlabicepppfaaaBytesG
import Derived.Test.YtdlabicepppfaaaMathB
import Derived.StillTailTactics
import Derived.Deep.RegionHeld3
/-! BytesBack: what is put, one behind the other, is got. -/
namespace Go.Proofs.Ytdlabicepppfaaa
open Go.RowKit
set_option linter.unusedVariables false

theorem unseal_seal (xs : List UInt8) : unsealB (sealB xs) = (xs, 0) := by
  have hl : (sealB xs).length = xs.length + 4 := by simp [sealB, four]
  unfold unsealB
  rw [if_neg (by omega), hl, show xs.length + 4 - 4 = xs.length by omega]
  have h1 : (sealB xs).drop xs.length = four (crc xs) := by unfold sealB; rw [List.drop_left]
  have h2 : (sealB xs).take xs.length = xs := by unfold sealB; rw [List.take_left]
  have h3 := num4_four (crc xs) (crc_lt xs) []
  rw [List.append_nil] at h3
  rw [h1, h2, h3, if_neg (by simp)]

set_option maxRecDepth 100000 in
set_option maxHeartbeats 1000000 in
theorem bytesBack_long (n : Nat) (m a : Int) (t : UInt8) (y : Value) (xs : List UInt8) (w : World) (hy : RdB w y xs) (h0 : 500 < xs.length) :
    Calls Try.prog 9 #[.int .u64 n, .int .i64 m, y, .int .i64 a, .int .u8 t.toNat] w (RetT w) := by
  obtain ⟨A, c, rfl, hc⟩ := hy.slice
  clear hy
  go_enter Try.func9, Try.ntmps9
  go_wp2_with fail
  refine (awake_c _).mono ?_
  rintro e w5 ⟨rfl, B⟩
  have F5 := hid ((Fr.refl No w).fresh_no B)
  clear B
  go_wp2_with fail
  go_ret
  exact ⟨rfl, F5.out⟩

set_option maxRecDepth 100000 in
set_option maxHeartbeats 2000000 in
theorem bytesBack_c (n : Nat) (m a : Int) (t : UInt8) (y : Value) (xs : List UInt8) (w : World) (hy : InB w y xs) (h500 : xs.length ≤ 500) (hn : n < 18446744073709551616)
    (hm : -9223372036854775808 ≤ m) (hm2 : m ≤ 9223372036854775807) (ha : -9223372036854775808 ≤ a) (ha2 : a ≤ 9223372036854775807) :
    Calls Try.prog 9 #[.int .u64 n, .int .i64 m, y, .int .i64 a, .int .u8 t.toNat] w (RetT w) := by
  obtain ⟨hy, hyo⟩ := hy
  obtain ⟨A, c, rfl, hc⟩ := hy.slice
  have HY := hid hy
  have HYO := hid hyo
  have HN := hid hn
  have HM := hid hm
  have HM2 := hid hm2
  have HA := hid ha
  have HA2 := hid ha2
  have HL := hid (show xs.length ≤ 140737488355328 by omega)
  have HL0 := hid (show xs.length ≤ 140737488355000 by omega)
  obtain ⟨l1, hl1⟩ : ∃ l, (varint (zz m)).length = l := ⟨_, rfl⟩
  obtain ⟨l2, hl2⟩ : ∃ l, (varint xs.length).length = l := ⟨_, rfl⟩
  obtain ⟨l3, hl3⟩ : ∃ l, (varint n).length = l := ⟨_, rfl⟩
  have b1 : l1 ≤ 10 := by rw [← hl1]; exact varint_len64 (zz_lt hm hm2)
  have b2 : l2 ≤ 10 := by rw [← hl2]; exact varint_len64 (by omega)
  have b3 : l3 ≤ 10 := by rw [← hl3]; exact varint_len64 hn
  obtain ⟨LL, hLL⟩ : ∃ LL, [] ++ varint (zz m) ++ varint xs.length ++ xs ++ varint n = LL := ⟨_, rfl⟩
  have HLLn := hid (show LL.length = l1 + l2 + xs.length + l3 by rw [← hLL]; simp [hl1, hl2, hl3]; omega)
  have HQ1 := hid (show getU LL 0 = (zz m, l1, 0) by
    have := getU_0 (varint xs.length ++ (xs ++ varint n)) (zz m) (zz_lt hm hm2)
    rw [← hLL, ← hl1]; simpa using this)
  have HQ2 := hid (show getU LL ((l1 : Nat) : Int) = (xs.length, l1 + l2, 0) by
    have := getU_at (varint (zz m)) (xs ++ varint n) xs.length (by omega)
    rw [← hLL, ← hl1, ← hl2]; simpa using this)
  have HQ3 := hid (show getU LL ((l1 + l2 + xs.length : Nat) : Int) = (n, l1 + l2 + xs.length + l3, 0) by
    have := getU_at (varint (zz m) ++ (varint xs.length ++ xs)) [] n hn
    rw [← hLL, ← hl1, ← hl2, ← hl3]; simpa [Nat.add_assoc] using this)
  have HB := hid (show (LL.drop (l1 + l2)).take xs.length = xs by
    rw [← hLL, show [] ++ varint (zz m) ++ varint xs.length ++ xs ++ varint n = (varint (zz m) ++ varint xs.length) ++ (xs ++ varint n) by simp, show l1 + l2 = (varint (zz m) ++ varint xs.length).length by simp [hl1, hl2], List.drop_left]
    simp)
  have HZ := hid (unzz_zz m)
  have e500 : decide (500 < xs.length) = false := by simp; omega
  obtain ⟨r1, r2, r3, hr⟩ : ∃ r1 r2 r3, getU xs 0 = (r1, r2, r3) := ⟨_, _, _, rfl⟩
  have HR := hid hr
  have HRB := hid (show r3 = 0 → 1 ≤ r2 ∧ r2 ≤ xs.length ∧ varint r1 = xs.take r2 by intro h; subst h; exact getU_back xs r1 r2 hr)
  have HRL := hid (show r1 < 18446744073709551616 by have := getU_lt xs 0; rw [hr] at this; exact this)
  have HB1 := hid (show ([] ++ varint (zz m)).length + xs.length ≤ 140737488300000 by simp [hl1]; omega)
  have HB2 := hid (show ([] ++ varint (zz m) ++ varint xs.length ++ xs).length ≤ 140737488300000 by simp [hl1, hl2]; omega)
  have HLL := hid hLL
  have hLLb : LL.length ≤ 140737488355328 := by rw [HLLn.out]; omega
  have HLLb := hid hLLb
  clear hy hyo hn hm hm2 ha ha2 hl1 hl2 hl3 hLL hr hLLb
  go_enter Try.func9, Try.ntmps9
  go_wp2_with fail
  refine (int_c _ [] m HM.out HM2.out _ (OwnB.nil _ _) (by simp)).mono ?_
  rintro e w1 ⟨v1, rfl, A', B', C'⟩
  have O1 := hid A'
  have F1 := hid (show Fr No w w1 from (Fr.refl No w).fresh_nil B')
  have G1 := hid C'
  clear A' B' C'
  go_wp2_with fail
  refine (blob_c v1 _ _ xs _ O1.out (HY.out.keep F1.out (fun k _ => not_no k)) ?_ HB1.out).mono ?_
  · intro h0 k h1 h2
    have := HYO.out h0 k h1
    rcases G1.out k h2 with h | h
    · exact absurd h Of_none
    · omega
  rintro e w2 ⟨v2, rfl, A', B', C'⟩
  have O2 := hid A'
  have F2 := hid (show Fr No w w2 from F1.out.fresh B' (fun k hk => by rcases G1.out k hk with h | h; exact absurd h Of_none; exact h))
  have G2 := hid (show ∀ k, Of v2 k → w.heap.size ≤ k from fun k hk => by
    rcases C' k hk with h | h
    · rcases G1.out k h with h | h
      · exact absurd h Of_none
      · exact h
    · have := F1.out.size; omega)
  clear A' B' C'
  go_wp2_with fail
  refine (uint_c v2 _ n HN.out _ O2.out HB2.out).mono ?_
  rintro e w3 ⟨v3, rfl, A', B', C'⟩
  rw [HLL.out] at A'
  have O3 := hid A'
  have F3 := hid (show Fr No w w3 from F2.out.fresh B' (fun k hk => G2.out k hk))
  clear A' B' C'
  obtain ⟨A3, c3, rfl, hc3⟩ := O3.out.slice
  have hcl : (LL.length : Int) = (l1 : Int) + l2 + xs.length + l3 := by rw [HLLn.out]; omega
  go_wp2_with fail
  refine (getInt_c _ LL _ _ O3.out.rd HLLb.out _ HQ1.out).mono ?_
  rintro e wx ⟨he, rfl⟩
  simp only [HZ.out] at he
  subst he
  go_wp2_with fail
  refine (getBlob_ok _ LL _ _ _ O3.out.rd HLLb.out _ _ HQ2.out (by omega) (by omega) (by omega) (by rw [HLLn.out]; omega)).mono ?_
  rintro e w4 ⟨v4, rfl, A', B', C'⟩
  rw [HB.out] at A'
  have O4 := hid A'
  have F4 := hid (F3.out.fresh_no B')
  have O34 := hid (O3.out.keep B' (fun k _ => not_no k))
  clear A' B' C'
  go_wp2_with fail
  refine (getUint_c _ LL _ _ O34.out.rd HLLb.out _ HQ3.out).mono ?_
  rintro e wx ⟨rfl, rfl⟩
  have HY4 := hid (HY.out.keep F4.out (fun k _ => not_no k))
  have hl3' : ((l1 + l2 + xs.length + l3 : Nat) : Int) = LL.length := by omega
  go_wp2_with fail
  refine (same_yes _ _ xs _ O4.out.rd HY4.out).mono ?_
  rintro e wx ⟨rfl, rfl⟩
  go_wp2_with fail
  refine (getUint_c _ xs 0 _ HY4.out HL.out _ HR.out).mono ?_
  rintro e wx ⟨rfl, rfl⟩
  by_cases c1 : r3 = 0
  · obtain ⟨q1, q2, q3⟩ := HRB.out c1
    have q1' : decide ((r2 : Int) < 1) = false := by simp; omega
    have q2' : decide (xs.length < r2) = false := by simp; omega
    have q4 : (r2 : Int) ≤ c := by omega
    have HT := hid q3
    clear q3
    subst c1
    have hd := HY4.out.take (m := r2) (c' := c) q2 (by omega)
    have HD := hid hd
    clear hd
    go_wp2_with fail
    go_region_held3 (fun w' => True) (trivial) ((first
      | (go_at_call 10; refine (uint_c _ [] r1 HRL.out _ (OwnB.nil _ _) (by simp)).mono ?_; rintro e w5 ⟨v5, rfl, A', B', C'⟩; have O5 := hid A'; have FF5 := hid (show Fr No _ _ from (Fr.refl No _).fresh_nil B'); have G5 := hid C'; clear A' B' C')
      | (go_at_call 15; refine (same_yes _ _ (varint r1) _ (O5.out.rd.heap (by rfl)) (HT.out ▸ ((HD.out.heap (by rfl)).keep (FF5.out) (fun k _ => not_no k)).heap (by rfl))).mono ?_; rintro e wx ⟨rfl, rfl⟩)))
    have F5 := hid ((F4.out.drew).fresh_no FF5.out)
    have HY5 := hid (HY.out.keep F5.out (fun k _ => not_no k))
    go_wp2_with fail
    refine (seal_c _ xs _ HY5.out HL0.out).mono ?_
    rintro e w6 ⟨v6, rfl, A', B', C'⟩
    have hsl : (sealB xs).length = xs.length + 4 := by simp [sealB, four]
    obtain ⟨g, cap, rfl, hcap, hgl⟩ := A'.form (by omega)
    have HY6 := hid (HY5.out.keep B' (fun k _ => not_no k))
    have F6 := hid (F5.out.fresh_no B')
    have hgw : w.heap.size ≤ g := by
      rcases C' g (Of_some.2 rfl) with h | h
      · exact absurd h (not_no _)
      · have := F5.out.size; omega
    rw [hsl] at hcap A'
    have O6 := hid A'
    clear A' B' C'
    rw [hsl]
    have HS := hid hsl
    have HU := hid (show unsealB (sealB xs) = (xs, 0) from unseal_seal xs)
    go_wp2_with fail
    refine (unseal_c _ (sealB xs) _ (show RdB w6 _ (sealB xs) from by have h := O6.out.rd; exact h) (by rw [HS.out]; omega) _ HU.out).mono ?_
    rintro e w7 ⟨v7, rfl, A', B', C'⟩
    have O7 := hid A'
    have HY7 := hid (HY6.out.keep B' (fun k _ => not_no k))
    have F7 := hid (F6.out.fresh_no B')
    have O67 := hid (O6.out.keep B' (fun k _ => not_no k))
    clear A' B' C'
    go_wp2_with fail
    refine (same_yes _ _ xs _ O7.out.rd HY7.out).mono ?_
    rintro e wx ⟨rfl, rfl⟩
    by_cases c2 : t = 0
    · have c2' : ((t.toNat : Int) != 0) = false := by subst c2; rfl
      go_wp2_with fail
      refine (awake_c _).mono ?_
      rintro e w8 ⟨rfl, B⟩
      have F8 := hid (F7.out.fresh_no B)
      clear B
      go_wp2_with fail
      go_ret
      exact ⟨rfl, F8.out⟩
    · have c2' : ((t.toNat : Int) != 0) = true := by
        rw [bne_iff_ne]; intro h; exact c2 (UInt8.toNat_inj.1 (by simp; omega))
      have hm0 := Int.emod_nonneg a (show (xs.length : Int) + 4 ≠ 0 by omega)
      have hm1 := Int.emod_lt_of_pos a (show (0 : Int) < (xs.length : Int) + 4 by omega)
      obtain ⟨p, hp⟩ := Int.eq_ofNat_of_zero_le hm0
      rw [hp] at hm1
      have hpl : p < xs.length + 4 := by omega
      have HP := hid hp
      obtain ⟨x, hx⟩ : ∃ x, (sealB xs)[p]? = some x := ⟨(sealB xs)[p]'(by rw [HS.out]; omega), by simp [HS.out, hpl]⟩
      have kx : wx.cell? ⟨g, p, none⟩ = some (.int .u8 x.toNat) := O67.out.cell hx
      have kf := O67.out.frozen HS.out.symm p
      have HXO := hid (xor_u8 x t)
      obtain ⟨ds, e4, h1, h2, h3, h4⟩ := sealed_turn xs p x t c2 hx
      have HU8 := hid (show unsealB ((sealB xs).set p (x ^^^ t)) = ([], 12) by
        show unsealB ((xs ++ four (crc xs)).set p (x ^^^ t)) = _
        rw [h1]
        unfold unsealB
        rw [List.length_append, h3, if_neg (by omega), Nat.add_sub_cancel, List.drop_left, List.take_left, if_pos h4])
      have HL8 := hid (show ((sealB xs).set p (x ^^^ t)).length ≤ 140737488355000 by simp [HS.out]; omega)
      clear hp hm0 hm1 hx h1 h2 h3 h4
      go_wp2_with fail
      refine (pick_c a _ HA.out HA2.out (by omega) (by omega) _).mono ?_
      rintro e wx ⟨he, rfl⟩
      rw [HP.out] at he
      subst he
      go_wp2_with fail
      rw [HXO.out]
      have O8 := hid (O67.out.set HS.out.symm p (x ^^^ t))
      have F8 := hid (show Fr No w (wx.setCell ⟨g, p, none⟩ (.int .u8 (x ^^^ t).toNat)) from F7.out.setCell (by first | exact .inr hgw | (simp; omega)) _)
      refine (unseal_c _ _ _ (show RdB _ _ ((sealB xs).set p (x ^^^ t)) from by have h := O8.out.rd; exact h) HL8.out _ HU8.out).mono ?_
      rintro e w9 ⟨v9, rfl, A', B', C'⟩
      have F9 := hid (F8.out.fresh_no B')
      clear A' B' C'
      go_wp2_with fail
      refine (awake_c _).mono ?_
      rintro e wA ⟨rfl, B⟩
      have FA := hid (F9.out.fresh_no B)
      clear B
      go_wp2_with fail
      go_ret
      exact ⟨rfl, FA.out⟩
  · have hb : ((r3 : Int) == 0) = false := by rw [beq_eq_false_iff_ne]; omega
    clear HRB
    go_wp2_with fail
    go_quiet (fail)
    have HY5 := hid (HY4.out.drewN nq)
    have F5 := hid (F4.out.drewN nq)
    go_wp2_with fail
    refine (seal_c _ xs _ HY5.out HL0.out).mono ?_
    rintro e w6 ⟨v6, rfl, A', B', C'⟩
    have hsl : (sealB xs).length = xs.length + 4 := by simp [sealB, four]
    obtain ⟨g, cap, rfl, hcap, hgl⟩ := A'.form (by omega)
    have HY6 := hid (HY5.out.keep B' (fun k _ => not_no k))
    have F6 := hid (F5.out.fresh_no B')
    have hgw : w.heap.size ≤ g := by
      rcases C' g (Of_some.2 rfl) with h | h
      · exact absurd h (not_no _)
      · have := F5.out.size; omega
    rw [hsl] at hcap A'
    have O6 := hid A'
    clear A' B' C'
    rw [hsl]
    have HS := hid hsl
    have HU := hid (show unsealB (sealB xs) = (xs, 0) from unseal_seal xs)
    go_wp2_with fail
    refine (unseal_c _ (sealB xs) _ (show RdB w6 _ (sealB xs) from by have h := O6.out.rd; exact h) (by rw [HS.out]; omega) _ HU.out).mono ?_
    rintro e w7 ⟨v7, rfl, A', B', C'⟩
    have O7 := hid A'
    have HY7 := hid (HY6.out.keep B' (fun k _ => not_no k))
    have F7 := hid (F6.out.fresh_no B')
    have O67 := hid (O6.out.keep B' (fun k _ => not_no k))
    clear A' B' C'
    go_wp2_with fail
    refine (same_yes _ _ xs _ O7.out.rd HY7.out).mono ?_
    rintro e wx ⟨rfl, rfl⟩
    by_cases c2 : t = 0
    · have c2' : ((t.toNat : Int) != 0) = false := by subst c2; rfl
      go_wp2_with fail
      refine (awake_c _).mono ?_
      rintro e w8 ⟨rfl, B⟩
      have F8 := hid (F7.out.fresh_no B)
      clear B
      go_wp2_with fail
      go_ret
      exact ⟨rfl, F8.out⟩
    · have c2' : ((t.toNat : Int) != 0) = true := by
        rw [bne_iff_ne]; intro h; exact c2 (UInt8.toNat_inj.1 (by simp; omega))
      have hm0 := Int.emod_nonneg a (show (xs.length : Int) + 4 ≠ 0 by omega)
      have hm1 := Int.emod_lt_of_pos a (show (0 : Int) < (xs.length : Int) + 4 by omega)
      obtain ⟨p, hp⟩ := Int.eq_ofNat_of_zero_le hm0
      rw [hp] at hm1
      have hpl : p < xs.length + 4 := by omega
      have HP := hid hp
      obtain ⟨x, hx⟩ : ∃ x, (sealB xs)[p]? = some x := ⟨(sealB xs)[p]'(by rw [HS.out]; omega), by simp [HS.out, hpl]⟩
      have kx : wx.cell? ⟨g, p, none⟩ = some (.int .u8 x.toNat) := O67.out.cell hx
      have kf := O67.out.frozen HS.out.symm p
      have HXO := hid (xor_u8 x t)
      obtain ⟨ds, e4, h1, h2, h3, h4⟩ := sealed_turn xs p x t c2 hx
      have HU8 := hid (show unsealB ((sealB xs).set p (x ^^^ t)) = ([], 12) by
        show unsealB ((xs ++ four (crc xs)).set p (x ^^^ t)) = _
        rw [h1]
        unfold unsealB
        rw [List.length_append, h3, if_neg (by omega), Nat.add_sub_cancel, List.drop_left, List.take_left, if_pos h4])
      have HL8 := hid (show ((sealB xs).set p (x ^^^ t)).length ≤ 140737488355000 by simp [HS.out]; omega)
      clear hp hm0 hm1 hx h1 h2 h3 h4
      go_wp2_with fail
      refine (pick_c a _ HA.out HA2.out (by omega) (by omega) _).mono ?_
      rintro e wx ⟨he, rfl⟩
      rw [HP.out] at he
      subst he
      go_wp2_with fail
      rw [HXO.out]
      have O8 := hid (O67.out.set HS.out.symm p (x ^^^ t))
      have F8 := hid (show Fr No w (wx.setCell ⟨g, p, none⟩ (.int .u8 (x ^^^ t).toNat)) from F7.out.setCell (by first | exact .inr hgw | (simp; omega)) _)
      refine (unseal_c _ _ _ (show RdB _ _ ((sealB xs).set p (x ^^^ t)) from by have h := O8.out.rd; exact h) HL8.out _ HU8.out).mono ?_
      rintro e w9 ⟨v9, rfl, A', B', C'⟩
      have F9 := hid (F8.out.fresh_no B')
      clear A' B' C'
      go_wp2_with fail
      refine (awake_c _).mono ?_
      rintro e wA ⟨rfl, B⟩
      have FA := hid (F9.out.fresh_no B)
      clear B
      go_wp2_with fail
      go_ret
      exact ⟨rfl, FA.out⟩
end Go.Proofs.Ytdlabicepppfaaa
