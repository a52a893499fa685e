import Derived.Test.YtkglndlmjleomaaBoxK
/-! BoxFull. -/
namespace Go.Proofs.Ytkglndlmjleomaa
open Go.RowKit
set_option linter.unusedVariables false
set_option linter.unusedSimpArgs false

def tt (k : Nat) : MailA := ⟨0, k, 0, 7, ⟨#[116]⟩⟩
def fulls (k : Nat) : List MailA := (List.range k).map tt
theorem fulls_succ (k : Nat) : fulls (k + 1) = fulls k ++ [tt k] := by unfold fulls; rw [List.range_succ, List.map_append]; rfl
theorem fulls_length (k : Nat) : (fulls k).length = k := by simp [fulls]
theorem fulls_cons (k : Nat) : ∃ l, fulls (k + 1) = tt 0 :: l ∧ l.length = k := by
  refine ⟨(List.range' 1 k).map tt, ?_, by simp⟩
  unfold fulls
  rw [List.range_eq_range', List.range'_succ]
  rfl
set_option maxRecDepth 100000 in
set_option maxHeartbeats 1000000 in
theorem boxFull_c (a m : Nat) (ha : a ≤ 255) (hm : m ≤ 255) (w : World) : Calls Try.prog 4 #[.int .u8 a, .int .u8 m] w (RetT w) := by
  go_enter Try.func4, Try.ntmps4
  go_wp2_with fail
  obtain ⟨n, hn⟩ : ∃ n : Nat, (1 : Int) + (a : Int) % 64 = n := ⟨1 + a % 64, by omega⟩
  have n1 : 1 ≤ n := by omega
  have n2 : n ≤ 64 := by omega
  rw [hn]
  clear hn
  refine (new_b _ n (by omega) (by omega)).mono ?_
  rintro e w1 ⟨g, S, rfl, b1, f1, s1⟩
  have HB1 := hid b1
  have HF1 := hid f1
  have HS1 := hid s1
  clear b1 f1 s1
  go_wp2_with fail
  go_loopg [30] 70 (fun q v30 w' => ∃ (i : Nat) (f : Int → List MailA) (S' : Nat → Prop), v30 = .int .i64 i ∧ (i : Int) ≤ n + (m : Int) % 5 ∧ q = 70 - i ∧ Hid (Bx w' g n f S') ∧ Hid (Fr No w w') ∧ Hid (∀ x, S' x → w.heap.size ≤ x) ∧ Hid (f 7 = fulls (min i n)) ∧ Hid (∀ k, k ≠ 7 → f k = []))
  case atStart => exact ⟨0, _, S, rfl, by omega, rfl, HB1, HF1, HS1, by simp [Hid, fulls], fun k _ => rfl⟩
  case round =>
    obtain ⟨i, f, S', rfl, hi, hq, HB, HF, HS, H7, H0⟩ := hrel
    have HQ := hid hq
    clear hq
    by_cases d1 : (i : Int) < n + (m : Int) % 5
    · by_cases d2 : i < n
      · have d3 : (i : Int) < n := by omega
        have d4 : ¬ (n : Int) ≤ i := by omega
        go_wp2_with fail
        refine (put_b HB.out (tt i) (show 1 ≤ 255 by decide) (by show ((f 7).length : Int) < n; rw [H7.out, fulls_length]; omega) (by omega)).mono ?_
        rintro e w2 ⟨S2, rfl, b2, f2, s2⟩
        have HB2 := hid b2
        have HF2 := hid (HF.out.fresh f2 HS.out)
        have HS2 := hid (show ∀ x, S2 x → w.heap.size ≤ x from fun x hx => (s2 x hx).elim (HS.out x) (fun h => Nat.le_trans HF.out.size h))
        clear b2 f2 s2
        go_wp2_with fail
        go_roundg (70 - (i + 1))
        case measure => have := HQ.out; omega
        case rel =>
          refine ⟨i + 1, _, S2, by go_num, by omega, rfl, HB2, HF2, HS2, ?_, fun k hk => ?_⟩
          · show addF f (tt i) 7 = _
            rw [show addF f (tt i) 7 = f 7 ++ [tt i] from if_pos rfl]
            rw [H7.out, Nat.min_eq_left (by omega), Nat.min_eq_left (by omega), fulls_succ]
          · show addF f (tt i) k = _
            exact (if_neg hk).trans (H0.out k hk)
      · have d3 : ¬ (i : Int) < n := by omega
        have d4 : (n : Int) ≤ i := by omega
        go_wp2_with fail
        refine (full_b HB.out (tt i) (show 1 ≤ 255 by decide) (by show (n : Int) ≤ ((f 7).length : Int); rw [H7.out, fulls_length]; omega)).mono ?_
        rintro e w2 ⟨rfl, f2⟩
        have HB2 := hid (HB.out.keep0 f2)
        have HF2 := hid (HF.out.fresh_no f2)
        clear f2
        go_wp2_with fail
        go_roundg (70 - (i + 1))
        case measure => have := HQ.out; omega
        case rel =>
          refine ⟨i + 1, _, S', by go_num, by omega, rfl, HB2, HF2, HS, ?_, H0⟩
          show f 7 = _
          rw [H7.out, Nat.min_eq_right (by omega), Nat.min_eq_right (by omega)]
    · have hmin : min i n = n := by omega
      have H7' := hid (show f 7 = fulls n by rw [H7.out, hmin])
      have HL7 := hid (show ((f 7).length : Int) = n by rw [H7'.out, fulls_length])
      have H8 := hid (H0.out 8 (by decide))
      clear hmin H7 H0
      go_wp2_with fail
      refine (len_b HB.out 7).mono ?_
      rintro e wx ⟨rfl, rfl⟩
      rw [HL7.out]
      go_wp2_with fail
      refine (put_b HB.out ⟨0, 0, 0, 8, ⟨#[]⟩⟩ (by decide) (by show ((f 8).length : Int) < n; rw [H8.out]; simp; omega) (by omega)).mono ?_
      rintro e w2 ⟨S2, rfl, b2, f2, s2⟩
      have HB2 := hid b2
      have HF2 := hid (HF.out.fresh f2 HS.out)
      have HS2 := hid (show ∀ x, S2 x → w.heap.size ≤ x from fun x hx => (s2 x hx).elim (HS.out x) (fun h => Nat.le_trans HF.out.size h))
      have E8 := hid (show addF f ⟨0, 0, 0, 8, ⟨#[]⟩⟩ 8 = [⟨0, 0, 0, 8, ⟨#[]⟩⟩] by unfold addF; rw [if_pos rfl, H8.out]; rfl)
      have E7 := hid (show addF f ⟨0, 0, 0, 8, ⟨#[]⟩⟩ 7 = fulls n by unfold addF; rw [if_neg (by decide)]; exact H7'.out)
      clear b2 f2 s2 HB HS H7' HL7 H8
      generalize addF f ⟨0, 0, 0, 8, ⟨#[]⟩⟩ = f2 at HB2 E8 E7
      go_wp2_with fail
      refine (len_b HB2.out 8).mono ?_
      rintro e wx ⟨rfl, rfl⟩
      rw [E8.out]
      go_wp2_with fail
      obtain ⟨n', rfl⟩ : ∃ n', n = n' + 1 := ⟨n - 1, by omega⟩
      obtain ⟨l, hl, hll⟩ := fulls_cons n'
      rw [hl] at E7
      have HLL := hid hll
      clear hl hll
      refine (take_b HB2.out 7 (tt 0) l E7.out (by rw [HLL.out]; omega)).mono ?_
      rintro e w3 ⟨S3, rfl, b3, f3, s3⟩
      have HF3 := hid (HF2.out.fresh f3 HS2.out)
      have HS3 := hid (show ∀ x, S3 x → w.heap.size ≤ x from fun x hx => (s3 x hx).elim (HS2.out x) (fun h => Nat.le_trans HF2.out.size h))
      have HB3 := hid (b3.keep0 ((Fr.refl No w3).alloc (.cells #[.int .i64 0, .int .i64 0, .int .i64 0, .int .i64 7, .string ⟨#[116]⟩, .slice none 0 0] 30)))
      have HF3' := hid (HF3.out.alloc (.cells #[.int .i64 0, .int .i64 0, .int .i64 0, .int .i64 7, .string ⟨#[116]⟩, .slice none 0 0] 30))
      have HM3 := hid (Blk.new w3 30 #[.int .i64 0, .int .i64 0, .int .i64 0, .int .i64 7, .string ⟨#[116]⟩, .slice none 0 0])
      have HNS := hid (show ¬ S3 w3.heap.size from fun h => absurd (b3.lt _ h) (by omega))
      have G8 := hid (show setF f2 7 l 8 = [⟨0, 0, 0, 8, ⟨#[]⟩⟩] by unfold setF; rw [if_neg (by decide)]; exact E8.out)
      have G7 := hid (show setF f2 7 l 7 = l by unfold setF; rw [if_pos rfl])
      clear b3 f3 s3 HB2 HS2 E7 E8
      generalize setF f2 7 l = f3 at HB3 G7 G8
      unfold MailA.cells tt
      go_wp2_with fail
      refine (put_b HB3.out ⟨0, 100, 0, 7, ⟨#[]⟩⟩ (by decide) (by show ((f3 7).length : Int) < _; rw [G7.out, HLL.out]; omega) (by omega)).mono ?_
      rintro e w4 ⟨S4, rfl, b4, f4, s4⟩
      have HF4 := hid (HF3'.out.fresh f4 HS3.out)
      have HS4 := hid (show ∀ x, S4 x → w.heap.size ≤ x from fun x hx => (s4 x hx).elim (HS3.out x) (fun h => Nat.le_trans HF3'.out.size h))
      have HB4 := hid b4
      have HM4 := hid (HM3.out.keep f4 HNS.out)
      have HNS4 := hid (show ¬ S4 w3.heap.size from fun h => (s4 _ h).elim HNS.out (fun h => by have := HM3.out.lt; omega))
      have I8 := hid (show addF f3 ⟨0, 100, 0, 7, ⟨#[]⟩⟩ 8 = [⟨0, 0, 0, 8, ⟨#[]⟩⟩] by unfold addF; rw [if_neg (by decide)]; exact G8.out)
      have I7 := hid (show ((addF f3 ⟨0, 100, 0, 7, ⟨#[]⟩⟩ 7).length : Int) = ((n' + 1 : Nat) : Int) by unfold addF; rw [if_pos rfl, List.length_append]; show (((f3 7).length + 1 : Nat) : Int) = _; rw [G7.out, HLL.out])
      clear b4 f4 s4 HB3 HS3 HF3 HF3' G7 G8 HM3 HNS
      generalize addF f3 ⟨0, 100, 0, 7, ⟨#[]⟩⟩ = f4 at HB4 I7 I8
      go_wp2_with fail
      refine (full_b HB4.out ⟨0, 101, 0, 7, ⟨#[]⟩⟩ (by decide) (by show _ ≤ ((f4 7).length : Int); rw [I7.out]; exact Int.le_refl _)).mono ?_
      rintro e w5 ⟨rfl, f5⟩
      have HB5 := hid (HB4.out.keep0 f5)
      have HF5 := hid (HF4.out.fresh_no f5)
      have m1 := (HM4.out.keep f5 (not_no _)).cell 1
      clear f5 HB4 HF4 HM4
      go_wp2_with fail
      refine (len_b HB5.out 7).mono ?_
      rintro e wx ⟨rfl, rfl⟩
      rw [I7.out]
      go_wp2_with fail
      refine (drop_b HB5.out 7).mono ?_
      rintro e w6 ⟨S6, rfl, b6, f6, s6⟩
      rw [I7.out]
      have HB6 := hid b6
      have HF6 := hid (HF5.out.fresh f6 HS4.out)
      have K7 := hid (show setF f4 7 [] 7 = [] by unfold setF; rw [if_pos rfl])
      have K8 := hid (show setF f4 7 [] 8 = [⟨0, 0, 0, 8, ⟨#[]⟩⟩] by unfold setF; rw [if_neg (by decide)]; exact I8.out)
      clear b6 f6 s6 HB5 HF5
      generalize setF f4 7 [] = f6 at HB6 K7 K8
      go_wp2_with fail
      refine (len_b HB6.out 7).mono ?_
      rintro e wx ⟨rfl, rfl⟩
      rw [K7.out]
      go_wp2_with fail
      refine (len_b HB6.out 8).mono ?_
      rintro e wx ⟨rfl, rfl⟩
      rw [K8.out]
      go_wp2_with fail
      refine (awake_c _).mono ?_
      rintro e w7 ⟨rfl, f7⟩
      have HF7 := hid (HF6.out.fresh_no f7)
      go_wp2_with fail
      go_ret
      exact ⟨rfl, HF7.out⟩
end Go.Proofs.Ytkglndlmjleomaa
