import Derived.Test.YtdlabicepppfaaaBytesG
/-! BytesLength: a varint has a byte for each seven bits, one at least; of a greater number it is never shorter; n and -n - 1 have signed ones of one length. -/
namespace Go.Proofs.Ytdlabicepppfaaa
open Go.RowKit
set_option linter.unusedVariables false

set_option maxRecDepth 100000 in
set_option maxHeartbeats 1000000 in
theorem bytesLength_c (n k : Nat) (m : Int) (hn : n < 18446744073709551616) (hk : k < 18446744073709551616) (h1 : -9223372036854775808 ≤ m) (h2 : m ≤ 9223372036854775807) (w : World) :
    Calls Try.prog 3 #[.int .u64 n, .int .u64 k, .int .i64 m] w (RetT w) := by
  have HM := hid (varint_mono n k)
  have HT := hid (varint_turn m)
  have HN := hid hn
  have HK := hid hk
  have HG := hid (groups_varint n)
  have HV := hid (varint_len64 hn)
  clear hn hk
  go_enter Try.func3, Try.ntmps3
  go_wp2
  go_loopg [7, 8] n (fun q v0 v1 w' => ∃ (t x : Nat), v0 = .int .i64 t ∧ v1 = .int .u64 x ∧ x ≤ n ∧ x ≤ q ∧ Hid (t + groups x = (varint n).length) ∧ w' = w)
  case atStart => exact ⟨1, n / 128, rfl, rfl, by omega, by omega, HG.out.symm, rfl⟩
  case round =>
    obtain ⟨t, x, rfl, rfl, hx, hq, HS, rfl⟩ := hrel
    have ht : t ≤ 10 := by have := HS.out; have := HV.out; omega
    by_cases c : 0 < x
    · go_wp2
      go_roundg (x / 128)
      case measure => omega
      case rel => exact ⟨t + 1, x / 128, by go_num, by go_num, by omega, by omega, by unfold Hid; rw [← HS.out, groups_step c]; omega, rfl⟩
    · have hx0 : x = 0 := by omega
      subst hx0
      have HS2 : Hid ((varint n).length = t) := HS.out.symm
      go_wp2_with fail
      refine (uint_x _ [] _ n rfl HN.out _ (OwnB.nil _ _) (by simp)).mono ?_
      rintro e w1 ⟨v1, rfl, A, B, C⟩
      rw [List.nil_append] at A
      obtain ⟨A1, c1, rfl, hc1⟩ := A.slice
      have F1 := hid ((Fr.refl No wr).fresh_nil B)
      clear A B C hc1 c
      go_wp2_with fail
      refine (uint_x _ [] _ k rfl HK.out _ (OwnB.nil _ _) (by simp)).mono ?_
      rintro e w2 ⟨v2, rfl, A, B, C⟩
      rw [List.nil_append] at A
      obtain ⟨A2, c2, rfl, hc2⟩ := A.slice
      have F2 := hid (F1.out.fresh_nil B)
      clear A B C hc2
      have t1 : (((varint n).length : Int) == (t : Int)) = true := by rw [HS2.out]; simp
      have t2 : (decide (k < n) || decide ((varint n).length ≤ (varint k).length)) = true := by
        by_cases h : k < n
        · simp [h]
        · have := HM.out (by omega); simp [this]
      have t3 : k < n ∨ (¬ k < n ∧ (varint n).length ≤ (varint k).length) := by
        by_cases h : k < n
        · exact .inl h
        · exact .inr ⟨h, HM.out (by omega)⟩
      have t4 : (((varint (zz m)).length : Int) == ((varint (zz (-1 - m))).length : Int)) = true := by rw [HT.out]; simp
      clear t2
      rcases t3 with t3 | ⟨t3, t5⟩
      all_goals
        go_wp2_with fail
        refine (int_c _ [] m h1 h2 _ (OwnB.nil _ _) (by simp)).mono ?_
        rintro e w3 ⟨v3, rfl, A, B, C⟩
        rw [List.nil_append] at A
        obtain ⟨A3, c3, rfl, hc3⟩ := A.slice
        have F3 := hid (F2.out.fresh_nil B)
        clear A B C hc3
        go_wp2_with fail
        refine (int_c _ [] (-1 - m) (by omega) (by omega) _ (OwnB.nil _ _) (by simp)).mono ?_
        rintro e w4 ⟨v4, rfl, A, B, C⟩
        rw [List.nil_append] at A
        obtain ⟨A4, c4, rfl, hc4⟩ := A.slice
        have F4 := hid (F3.out.fresh_nil B)
        clear A B C hc4
        go_wp2_with fail
        refine (awake_c _).mono ?_
        rintro e w5 ⟨rfl, B⟩
        have F5 := hid (F4.out.fresh_no B)
        clear B
        go_wp2_with fail
        go_ret
        exact ⟨rfl, F5.out⟩
end Go.Proofs.Ytdlabicepppfaaa
