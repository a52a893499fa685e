import Derived.Test.YtdlabicepppfaaaBytesG
/-! BytesApart: no varint is the begin of another one; two unlike numbers have unlike ones. -/
namespace Go.Proofs.Ytdlabicepppfaaa
open Go.RowKit
set_option linter.unusedVariables false

set_option maxRecDepth 100000 in
set_option maxHeartbeats 1000000 in
theorem bytesApart_c (n k : Nat) (y : Value) (ys : List UInt8) (hn : n < 18446744073709551616) (hk : k < 18446744073709551616) (w : World) (hy : RdB w y ys) :
    Calls Try.prog 4 #[.int .u64 n, .int .u64 k, y] w (RetT w) := by
  obtain ⟨A, c, rfl, hc⟩ := hy.slice
  have HY := hid hy
  have HN := hid hn
  have HK := hid hk
  have HV := hid (varint_len64 hn)
  have HP := hid (varint_len_pos n)
  clear hn hk hy
  by_cases h500 : 500 < ys.length
  · go_enter Try.func4, Try.ntmps4
    go_wp2_with fail
    refine (awake_c _).mono ?_
    rintro e w1 ⟨rfl, B⟩
    go_wp2_with fail
    go_ret
    exact ⟨rfl, B⟩
  · go_enter Try.func4, Try.ntmps4
    go_wp2_with fail
    refine (uint_x _ [] _ n rfl HN.out _ (OwnB.nil _ _) (by simp)).mono ?_
    rintro e w1 ⟨v1, rfl, A', B, C⟩
    rw [List.nil_append] at A'
    obtain ⟨A1, c1, rfl, hc1⟩ := A'.slice
    have O1 := hid A'
    have F1 := hid ((Fr.refl No w).fresh_nil B)
    have G1 := hid (show ∀ k, Of (.slice A1 (varint n).length c1) k → w.heap.size ≤ k from fun k hk => by rcases C k hk with h | h; exact absurd h Of_none; exact h)
    clear A' B C hc1
    have hv10 : (varint n).length ≤ 10 := HV.out
    go_wp2_with fail
    go_loopg [8] (varint n).length (fun q v0 w' => ∃ i : Nat, v0 = .int .i64 i ∧ i ≤ (varint n).length ∧ Hid (q = (varint n).length - i) ∧ w' = w1)
    case atStart => exact ⟨0, rfl, by omega, rfl, rfl⟩
    case round =>
      obtain ⟨i, rfl, hi, HQ, rfl⟩ := hrel
      by_cases ci : i < (varint n).length
      · have hci : (i : Int) ≤ c1 := by obtain ⟨_, _, hv, hh⟩ := O1.out.slice; injection hv with _ _ h3; subst h3; omega
        have HT := hid (O1.out.rd.take (m := i) (c' := c1) (by omega) (by omega))
        have HG := hid (getU_cut n i HN.out ci)
        have HTL := hid (show ((varint n).take i).length ≤ 140737488355328 by simp; omega)
        go_wp2_with fail
        refine (getUint_c _ _ 0 _ HT.out HTL.out _ HG.out).mono ?_
        rintro e wx ⟨rfl, rfl⟩
        go_wp2_with fail
        go_roundg ((varint n).length - (i + 1))
        case measure => have := HQ.out; omega
        case rel => exact ⟨i + 1, by go_num, by omega, rfl, rfl⟩
      · have HL2 := hid (show (varint n).length ≤ 140737488355328 by omega)
        have hyl : ys.length ≤ 500 := by omega
        have HL3 := hid (show (varint n).length + ys.length ≤ 140737488355328 by omega)
        have HG2 := hid (getU_0 ys n HN.out)
        have HL4 := hid (show (varint n ++ ys).length ≤ 140737488355328 by simp; omega)
        go_wp2_with fail
        refine (copy_c _ _ _ O1.out.rd HL2.out).mono ?_
        rintro e w2 ⟨v2, rfl, A', B, C⟩
        have O2 := hid A'
        have G2 := hid (show ∀ k, Of v2 k → w.heap.size ≤ k from fun k hk => by rcases C k hk with h | h; exact absurd h (not_no _); have := F1.out.size; omega)
        have K2 := hid (show ∀ k, Of v2 k → wr.heap.size ≤ k from fun k hk => by rcases C k hk with h | h; exact absurd h (not_no _); exact h)
        have F2 := hid (F1.out.fresh_no B)
        have O1b := hid (O1.out.keep B (fun k _ => not_no k))
        have HY2 := hid (HY.out.keep F2.out (fun k _ => not_no k))
        have HO1 := hid O1.out.lt
        clear A' B C
        go_wp2_with (at_builtin; refine wpl_appB _ rfl (.tmp 42) (.tmp 43) _ rfl 5 Try.underlying24 infoU8 _ _ rfl O2.out _ _ rfl HY2.out HL3.out ?_; intro v3 w3 A3 B3 C3)
        obtain ⟨A4, c4, rfl, hc4⟩ := A3.out.slice
        have F3 := hid (F2.out.fresh B3.out G2.out)
        have O1c := hid (O1b.out.keep B3.out (fun k hk hk2 => by have h1 := HO1.out k hk; have h2 := K2.out k hk2; omega))
        clear hc4
        refine (getUint_c _ _ 0 _ A3.out.rd HL4.out _ HG2.out).mono ?_
        rintro e wx ⟨rfl, rfl⟩
        by_cases hnk : n = k
        · subst hnk
          go_wp2_with fail
          refine (uint_x _ [] _ n rfl HN.out _ (OwnB.nil _ _) (by simp)).mono ?_
          rintro e w4 ⟨v4, rfl, A', B, C⟩
          rw [List.nil_append] at A'
          have F4 := hid (F3.out.fresh_nil B)
          have O1d := hid (O1c.out.keep B (fun k _ hk2 => absurd hk2 Of_none))
          have O4 := hid A'
          clear A' B C
          go_wp2_with fail
          refine (same_yes _ _ _ _ O1d.out.rd O4.out.rd).mono ?_
          rintro e wx ⟨rfl, rfl⟩
          go_wp2_with fail
          refine (awake_c _).mono ?_
          rintro e w5 ⟨rfl, B⟩
          have F5 := hid (F4.out.fresh_no B)
          clear B
          go_wp2_with fail
          go_ret
          exact ⟨rfl, F5.out⟩
        · have hb : ((n : Int) == (k : Int)) = false := by simp; omega
          have HE := hid (show decide (varint n = varint k) = false by simp; exact fun h => hnk (varint_inj HN.out HK.out h))
          clear hnk
          go_wp2_with fail
          refine (uint_x _ [] _ k rfl HK.out _ (OwnB.nil _ _) (by simp)).mono ?_
          rintro e w4 ⟨v4, rfl, A', B, C⟩
          rw [List.nil_append] at A'
          have F4 := hid (F3.out.fresh_nil B)
          have O1d := hid (O1c.out.keep B (fun k _ hk2 => absurd hk2 Of_none))
          have O4 := hid A'
          clear A' B C
          go_wp2_with fail
          refine (same_c _ _ _ _ _ O1d.out.rd O4.out.rd).mono ?_
          rintro e wx ⟨he, rfl⟩
          rw [HE.out] at he
          subst he
          go_wp2_with fail
          refine (awake_c _).mono ?_
          rintro e w5 ⟨rfl, B⟩
          have F5 := hid (F4.out.fresh_no B)
          clear B
          go_wp2_with fail
          go_ret
          exact ⟨rfl, F5.out⟩
end Go.Proofs.Ytdlabicepppfaaa
