import Derived.Test.YtfilmehekibmbaaDiskG
import Derived.Test.YtfilmehekibmbaaRowKit
/-! A call of a script. -/
namespace Go.Proofs.Ytfilmehekibmbaa
open Go.RowKit
set_option linter.unusedVariables false
set_option linter.unusedSimpArgs false

def doD (d : DSt) (kind n : Int) (xs : List UInt8) : DSt × Nat :=
  if kind = 1 ∨ kind = 2 then appendD d xs else if kind = 3 then syncD d else if kind = 4 then cutD d n else if kind = 5 then (armD d n, 0) else if kind = 6 then (crashD d n, 0) else (d, 0)
theorem RetD.of0 {w w' : World} {g : Nat} {v : Value} {d' : DSt} {e : Ending} (h : RetD0 w g v d' e w') : e = .returned (.tuple #[]) ∧ ∃ v', IsDisk w' g v' d' ∧ Fr (Its g v) w w' ∧ Grows w (Of v) v' := by
  obtain ⟨v', he, hd⟩ := h
  exact ⟨he, v', hd⟩

set_option maxRecDepth 100000 in
set_option maxHeartbeats 1000000 in
theorem does_c {w : World} {g : Nat} {v : Value} {d : DSt} (h : IsDisk w g v d) (kind n : Int) (hn : n ≤ 9223372036854775807) (y : Value) (xs : List UInt8) (hy : RdB w y xs) (hyg : 0 < xs.length → ∀ k, Of y k → ¬ Its g v k) (hyl : xs.length ≤ 140737488000000) (r : DSt × Nat) (hr : doD d kind n xs = r) :
    Calls Try.prog 34 #[.pointer (some ⟨g, 0, none⟩), .agg #[.int .i64 kind, .int .i64 n, y]] w (RetD w g v r) := by
  obtain ⟨A, c, rfl, hc⟩ := hy.slice
  have H := hid h
  have HY := hid hy
  have HYG := hid hyg
  have HN := hid hn
  subst hr
  clear h hy hyg
  have D2 := hid (H.out.keep_no ((Fr.refl No w).alloc (.cells #[.int .i64 kind, .int .i64 n, .slice A xs.length c] 42)))
  by_cases c1 : kind = 1 ∨ kind = 2
  · have HR := hid (show doD d kind n xs = appendD d xs by unfold doD; rw [if_pos c1])
    rcases c1 with c1 | c1
    all_goals
      subst c1
      go_enter Try.func34, Try.ntmps34
      go_wp2_with fail
      refine (append_c D2.out _ xs (HY.out.alloc _) HYG.out hyl _ rfl).mono ?_
      rintro e w1 h1
      obtain ⟨v1, rfl, h2⟩ := h1.alloc
      have H2 := hid h2
      clear h1 h2
      go_wp2_with fail
      go_ret
      rw [HR.out]
      exact ⟨v1, rfl, H2.out⟩
  · by_cases c3 : kind = 3
    · have HR := hid (show doD d kind n xs = syncD d by unfold doD; rw [if_neg c1, if_pos c3])
      subst c3
      go_enter Try.func34, Try.ntmps34
      go_wp2_with fail
      refine (sync_c D2.out _ rfl).mono ?_
      rintro e w1 h1
      obtain ⟨v1, rfl, h2⟩ := h1.alloc
      have H2 := hid h2
      clear h1 h2
      go_wp2_with fail
      go_ret
      rw [HR.out]
      exact ⟨v1, rfl, H2.out⟩
    · by_cases c4 : kind = 4
      · have HR := hid (show doD d kind n xs = cutD d n by unfold doD; rw [if_neg c1, if_neg c3, if_pos c4])
        subst c4
        go_enter Try.func34, Try.ntmps34
        go_wp2_with fail
        refine (cut_c D2.out _ _ rfl).mono ?_
        rintro e w1 h1
        obtain ⟨v1, rfl, h2⟩ := h1.alloc
        have H2 := hid h2
        clear h1 h2
        go_wp2_with fail
        go_ret
        rw [HR.out]
        exact ⟨v1, rfl, H2.out⟩
      · by_cases c5 : kind = 5
        · have HR := hid (show doD d kind n xs = (armD d n, 0) by unfold doD; rw [if_neg c1, if_neg c3, if_neg c4, if_pos c5])
          subst c5
          go_enter Try.func34, Try.ntmps34
          go_wp2_with fail
          refine (arm_c D2.out n HN.out _ rfl).mono ?_
          rintro e w1 ⟨v1, rfl, I, F, G⟩
          have H2 := hid (RetD.alloc (w := w) (r := (armD d n, 0)) ⟨v1, rfl, I, F, G⟩)
          clear I F G
          go_wp2_with fail
          go_ret
          rw [HR.out]
          exact H2.out
        · by_cases c6 : kind = 6
          · have HR := hid (show doD d kind n xs = (crashD d n, 0) by unfold doD; rw [if_neg c1, if_neg c3, if_neg c4, if_neg c5, if_pos c6])
            subst c6
            go_enter Try.func34, Try.ntmps34
            go_wp2_with fail
            refine (crash_c D2.out n _ rfl).mono ?_
            rintro e w1 ⟨v1, rfl, I, F, G⟩
            have H2 := hid (RetD.alloc (w := w) (r := (crashD d n, 0)) ⟨v1, rfl, I, F, G⟩)
            clear I F G
            go_wp2_with fail
            go_ret
            rw [HR.out]
            exact H2.out
          · have HR := hid (show doD d kind n xs = (d, 0) by unfold doD; rw [if_neg c1, if_neg c3, if_neg c4, if_neg c5, if_neg c6])
            have e1 : (kind == 1) = false := by rw [beq_eq_false_iff_ne]; omega
            have e2 : (kind == 2) = false := by rw [beq_eq_false_iff_ne]; omega
            have e3 : (kind == 3) = false := by rw [beq_eq_false_iff_ne]; omega
            have e4 : (kind == 4) = false := by rw [beq_eq_false_iff_ne]; omega
            have e5 : (kind == 5) = false := by rw [beq_eq_false_iff_ne]; omega
            have e6 : (kind == 6) = false := by rw [beq_eq_false_iff_ne]; omega
            go_enter Try.func34, Try.ntmps34
            go_wp2_with fail
            go_ret
            rw [HR.out]
            exact ⟨v, rfl, D2.out, (Fr.refl _ w).alloc _, Grows.self _ _⟩
end Go.Proofs.Ytfilmehekibmbaa
