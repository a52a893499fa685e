import Derived.Test.YtfilmehekibmbaaDiskP
/-! DiskMore: a crash that keeps more leaves a longer begin, or as much. -/
namespace Go.Proofs.Ytfilmehekibmbaa
open Go.RowKit
set_option linter.unusedVariables false
set_option linter.unusedSimpArgs false

theorem left_mono {d : DSt} (hs : d.synced ≤ d.bytes.length) {n m : Int} (h : n ≤ m) : left d n ≤ left d m := by unfold left; omega

set_option maxRecDepth 100000 in
set_option maxHeartbeats 1000000 in
theorem diskMore_far (y : Value) (os : List OpV) (keep : Int) (more : Nat) (w : World) (h1 : RdO w y os) (hk : 1099511627776 < keep) :
    Calls Try.prog 8 #[y, .int .i64 keep, .int .u8 more] w (RetT w) := by
  clear h1
  go_enter Try.func8, Try.ntmps8
  go_wp2_with fail
  refine (awake_c _).mono ?_
  rintro e w7 ⟨rfl, B⟩
  have F7 := hid ((Fr.refl No w).fresh_no B)
  clear B
  go_wp2_with fail
  go_ret
  exact ⟨rfl, F7.out⟩

set_option maxRecDepth 100000 in
set_option maxHeartbeats 2000000 in
theorem diskMore_c (y : Value) (os : List OpV) (keep : Int) (more : Nat) (w : World) (h1 : RdO w y os) (hk : keep ≤ 1099511627776) (hk0 : -9223372036854775808 ≤ keep) (hm : more ≤ 255) :
    Calls Try.prog 8 #[y, .int .i64 keep, .int .u8 more] w (RetT w) := by
  have H1 := hid h1
  have s1 : IntKind.i64.wrap (keep + (more : Int)) = keep + more := by rw [IntKind.wrap_i64]; omega
  clear h1
  go_enter Try.func8, Try.ntmps8
  go_wp2_with fail
  refine (played_c _ os _ H1.out).mono ?_
  rintro e w1 ⟨g, v, g', v', d, rfl, S⟩
  have S1 := hid S
  obtain ⟨p, hp⟩ : ∃ p, left d keep = p := ⟨_, rfl⟩
  obtain ⟨q, hq⟩ : ∃ q, left d (keep + more) = q := ⟨_, rfl⟩
  have hpq : p ≤ q := by rw [← hp, ← hq]; exact left_mono S.a.disk.syn (by omega)
  have hql : q ≤ d.bytes.length := by rw [← hq]; exact left_le S.a.disk.syn _
  have HA := hid (show crashD d keep = ⟨d.most, d.bytes.take p, p, -1, false⟩ by unfold crashD; rw [hp])
  have HB := hid (show crashD d (keep + more) = ⟨d.most, d.bytes.take q, q, -1, false⟩ by unfold crashD; rw [hq])
  have HPL := hid (show (d.bytes.take p).length = p by simp; omega)
  have HQL := hid (show (d.bytes.take q).length = q by simp; omega)
  have HT := hid (show (d.bytes.take q).take p = d.bytes.take p by rw [List.take_take, Nat.min_eq_left hpq])
  clear S hp hq
  go_wp2_with fail
  refine (crash_c S1.out.a.disk keep _ HA.out).mono ?_
  rintro e w2 ⟨v2, rfl, I, F, G⟩
  have S2 := hid (S1.out.toA I F G)
  clear I F G
  go_wp2_with fail
  refine (crash_c S2.out.b.disk (keep + more) _ HB.out).mono ?_
  rintro e w3 ⟨v3, rfl, I, F, G⟩
  have S3 := hid (S2.out.swap.toA I F G).swap
  clear I F G
  go_wp2_with fail
  refine (read_c S3.out.a.disk (d.bytes.take p, 0) rfl).mono ?_
  rintro e w4 ⟨x4, rfl, A, B, C⟩
  have O4 := hid A
  have S4 := hid (S3.out.keep B)
  clear A B C
  go_wp2_with fail
  refine (read_c S4.out.b.disk (d.bytes.take q, 0) rfl).mono ?_
  rintro e w5 ⟨x5, rfl, A, B, C⟩
  have O5 := hid A
  have S5 := hid (S4.out.keep B)
  have O45 := hid (O4.out.keep B (fun k _ => not_no k))
  clear A B C
  obtain ⟨A4, c4, rfl, hc4⟩ := O45.out.slice
  obtain ⟨A5, c5, rfl, hc5⟩ := O5.out.slice
  have hq5 : q ≤ c5 := by
    have h1 : (d.bytes.take q).length ≤ c5 := hc5
    rw [HQL.out] at h1
    exact h1
  have T5 := hid (O5.out.rd.take (m := p) (c' := c5) (by rw [HQL.out]; exact hpq) (by omega))
  have q0 : (p : Int) ≤ q := by omega
  have q1 : (p : Int) ≤ c5 := by omega
  have q2 : (0 : Int) ≤ p := by omega
  rw [HT.out] at T5
  obtain ⟨P, hP⟩ : ∃ P, d.bytes.take p = P := ⟨_, rfl⟩
  obtain ⟨Q, hQ⟩ : ∃ Q, d.bytes.take q = Q := ⟨_, rfl⟩
  rw [hP] at O4 O45 T5 HPL hc4 ⊢
  rw [hQ] at O5 HQL hc5 ⊢
  rw [HPL.out, HQL.out]
  have R45 := hid (show RdB w5 (.slice A4 p c4) P by have h := O45.out.rd; rw [HPL.out] at h; exact h)
  go_wp2_with fail
  refine (same_yes _ _ P _ R45.out T5.out).mono ?_
  rintro e wx ⟨rfl, rfl⟩
  go_wp2_with fail
  refine (awake_c _).mono ?_
  rintro e w7 ⟨rfl, B⟩
  have F7 := hid (S5.out.a.fr.fresh_no B)
  clear B
  go_wp2_with fail
  go_ret
  exact ⟨rfl, F7.out⟩
end Go.Proofs.Ytfilmehekibmbaa
