import Derived.Test.YtfilmehekibmbaaDiskO
/-! DiskRefused: what is refused changes nothing. -/
namespace Go.Proofs.Ytfilmehekibmbaa
open Go.RowKit
set_option linter.unusedVariables false
set_option linter.unusedSimpArgs false

theorem oper_same (d : DSt) (may : Nat) (f : DSt → DSt) (h0 : (operD d may f).2 ≠ 0) (h15 : (operD d may f).2 ≠ 15) : (operD d may f).1 = d := by
  unfold operD at *
  split
  · rfl
  · rename_i h1
    rw [if_neg h1] at h0 h15
    split
    · rfl
    · rename_i h2
      rw [if_neg h2] at h0 h15
      split
      · rename_i h3; rw [if_pos h3] at h15; exact absurd rfl h15
      · rename_i h3; rw [if_neg h3] at h0; exact absurd rfl h0
theorem do_same (d : DSt) (kind n : Int) (xs : List UInt8) (h0 : (doD d kind n xs).2 ≠ 0) (h15 : (doD d kind n xs).2 ≠ 15) : (doD d kind n xs).1 = d := by
  unfold doD at *
  split
  · rename_i h; rw [if_pos h] at h0 h15; exact oper_same _ _ _ h0 h15
  · rename_i h
    rw [if_neg h] at h0 h15
    split
    · rename_i h; rw [if_pos h] at h0 h15; exact oper_same _ _ _ h0 h15
    · rename_i h
      rw [if_neg h] at h0 h15
      split
      · rename_i h; rw [if_pos h] at h0 h15; exact oper_same _ _ _ h0 h15
      · rename_i h
        rw [if_neg h] at h0
        split at h0
        · exact absurd rfl h0
        · split at h0
          · exact absurd rfl h0
          · exact absurd rfl h0

set_option maxRecDepth 100000 in
set_option maxHeartbeats 2000000 in
theorem diskRefused_c (m : Nat) (hm : m ≤ 65535) (y : Value) (os : List OpV) (w : World) (h1 : RdO w y os) :
    Calls Try.prog 9 #[.int .u16 m, y] w (RetT w) := by
  obtain ⟨A1, c1, rfl, q1⟩ := h1.1
  replace q1 := q1.1
  have H1 := hid h1
  clear h1
  go_enter Try.func9, Try.ntmps9
  go_wp2_with fail
  refine (new_c _ (by omega) (by omega) _).mono ?_
  rintro e w1 ⟨g, v1, rfl, I, F, hgn, hvn⟩
  have S1 := hid (St.new I F hgn hvn)
  have HV1 := hid hvn
  clear I F hgn hvn
  go_wp2_with fail
  refine (new_c _ (by omega) (by omega) _).mono ?_
  rintro e w2 ⟨g', v2, rfl, I, F, hgn, hvn⟩
  have S2 := hid (show St2 w w2 g v1 (newD ((m : Int) % 1001)) g' v2 (newD ((m : Int) % 1001)) from
    ⟨S1.out.keep F, St.new I (S1.out.fr.fresh_no F) (Nat.le_trans S1.out.fr.size hgn) hvn, by have := S1.out.disk.lt; omega, fun k hk _ => HV1.out k hk⟩)
  clear I F hgn hvn S1 HV1
  go_wp2_with fail
  go_loopg [9, 10] 50 (fun q v9 v10 w' => ∃ (i : Nat) (v v' : Value) (d : DSt), v9 = .int .i64 i ∧ i ≤ 50 ∧ q = 50 - i ∧ Hid (St2 w w' g v d g' v' d))
  case atStart => exact ⟨0, v1, v2, newD ((m : Int) % 1001), rfl, by omega, rfl, S2⟩
  case round =>
    clear S2
    obtain ⟨i, v, v', d, rfl, hi, hq, HS⟩ := hrel
    have HQ := hid hq
    clear hq
    by_cases d1 : i < os.length ∧ i < 50
    · obtain ⟨d1, d2⟩ := d1
      obtain ⟨b, off, kind, n, As, cs, ys, rfl, hz, hc0, hc1, hc2, hok⟩ := (H1.out.keep HS.out.a.fr).at_ d1
      have HZ := hid hz
      have HOK := hid hok
      have HOLD := hid ((H1.out.2 _ (List.mem_of_getElem? hz)).1.2)
      clear hz hok
      have i50 : (i : Int) < 50 := by omega
      by_cases d3 : 200 < ys.length
      · go_wp2_with fail
        go_roundg (50 - (i + 1))
        case measure => have := HQ.out; omega
        case rel => exact ⟨i + 1, v, v', d, by go_num, by omega, rfl, HS⟩
      · have HYG := hid (show 0 < ys.length → ∀ k, Of (.slice As ys.length cs) k → ¬ Its g v k from fun h0 k hk hi => by have h1 := HOLD.out h0 k hk; have h2 := HS.out.a.its hi; omega)
        have HYG' := hid (show 0 < ys.length → ∀ k, Of (.slice As ys.length cs) k → ¬ Its g' v' k from fun h0 k hk hi => by have h1 := HOLD.out h0 k hk; have h2 := HS.out.b.its hi; omega)
        obtain ⟨r1, r2, hr⟩ : ∃ r1 r2, doD d kind n ys = (r1, r2) := ⟨_, _, rfl⟩
        have HR := hid hr
        have HSAME := hid (show r2 ≠ 0 → r2 ≠ 15 → r1 = d from fun h0 h15 => by have h := do_same d kind n ys (by rw [hr]; exact h0) (by rw [hr]; exact h15); rw [hr] at h; exact h)
        clear hr
        go_wp2_with fail
        refine (does_c HS.out.a.disk kind n HOK.out.2.2.2.2 _ ys HOK.out.1.1 HYG.out (by omega) _ HR.out).mono ?_
        rintro e w3 hr
        obtain ⟨v3, rfl, S'⟩ := HS.out.step (Fr.refl No _) hr
        have S3 := hid S'
        clear S' hr
        obtain ⟨b2, off2, kind2, n2, As2, cs2, ys2, e1, e2, hd0, hd1, hd2, hok2⟩ := (H1.out.keep S3.out.a.fr).at_ d1
        injection e1 with e1
        injection e1 with e1 e1'
        subst e1 e1'
        rw [HZ.out] at e2
        injection e2 with e2
        injection e2 with e2 e3 e4 e5
        injection e4 with e4 _ e6
        subst e2 e3 e5 e4 e6
        have HOK2 := hid hok2
        clear hok2
        have hc : r2 = 0 ∨ r2 = 15 ∨ (r2 ≠ 0 ∧ r2 ≠ 15) := by omega
        rcases hc with hc | hc | ⟨hca, hcb⟩
        · subst hc
          go_wp2_with fail
          refine (does_c S3.out.b.disk kind n HOK.out.2.2.2.2 _ ys HOK2.out.1.1 HYG'.out (by omega) _ HR.out).mono ?_
          rintro e w4 hr
          obtain ⟨v4, rfl, S'⟩ := S3.out.swap.step (Fr.refl No _) hr
          have S4 := hid S'.swap
          clear S' hr
          go_wp2_with fail
          refine (alike_c S4.out.a.disk S4.out.b.disk rfl rfl rfl).mono ?_
          rintro e w5 ⟨rfl, B⟩
          have S5 := hid (S4.out.keep B)
          clear B
          go_wp2_with fail
          go_roundg (50 - (i + 1))
          case measure => have := HQ.out; omega
          case rel => exact ⟨i + 1, v3, v4, r1, by go_num, by omega, rfl, S5⟩
        · subst hc
          go_wp2_with fail
          refine (does_c S3.out.b.disk kind n HOK.out.2.2.2.2 _ ys HOK2.out.1.1 HYG'.out (by omega) _ HR.out).mono ?_
          rintro e w4 hr
          obtain ⟨v4, rfl, S'⟩ := S3.out.swap.step (Fr.refl No _) hr
          have S4 := hid S'.swap
          clear S' hr
          go_wp2_with fail
          refine (alike_c S4.out.a.disk S4.out.b.disk rfl rfl rfl).mono ?_
          rintro e w5 ⟨rfl, B⟩
          have S5 := hid (S4.out.keep B)
          clear B
          go_wp2_with fail
          go_roundg (50 - (i + 1))
          case measure => have := HQ.out; omega
          case rel => exact ⟨i + 1, v3, v4, r1, by go_num, by omega, rfl, S5⟩
        · have hs := HSAME.out hca hcb
          have e0 : ((r2 : Int) != 0) = true := by rw [bne_iff_ne]; omega
          have e15 : ((r2 : Int) != 15) = true := by rw [bne_iff_ne]; omega
          subst hs
          go_wp2_with fail
          go_roundg (50 - (i + 1))
          case measure => have := HQ.out; omega
          case rel => exact ⟨i + 1, v3, v', r1, by go_num, by omega, rfl, S3⟩
    · have hend : i = 50 ∧ i < os.length ∨ ¬ i < os.length := by omega
      clear d1
      rcases hend with ⟨he1, he2⟩ | he1
      all_goals
        go_wp2_with fail
        refine (awake_c _).mono ?_
        rintro e w7 ⟨rfl, B⟩
        have F7 := hid (HS.out.a.fr.fresh_no B)
        clear B
        go_wp2_with fail
        go_ret
        exact ⟨rfl, F7.out⟩
end Go.Proofs.Ytfilmehekibmbaa
