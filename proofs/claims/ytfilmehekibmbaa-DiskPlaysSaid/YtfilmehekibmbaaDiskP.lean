import Derived.Test.YtfilmehekibmbaaDiskO
/-! Two disks behind the same script. -/
namespace Go.Proofs.Ytfilmehekibmbaa
open Go.RowKit
set_option linter.unusedVariables false
set_option linter.unusedSimpArgs false

def RetP (w : World) : Ending → World → Prop := fun e w' => ∃ g v g' v' d, e = .returned (.tuple #[.pointer (some ⟨g, 0, none⟩), .pointer (some ⟨g', 0, none⟩)]) ∧ St2 w w' g v d g' v' d

set_option maxRecDepth 100000 in
set_option maxHeartbeats 2000000 in
theorem played_c (y : Value) (os : List OpV) (w : World) (h1 : RdO w y os) :
    Calls Try.prog 32 #[.int .i64 1000, y] w (RetP w) := by
  obtain ⟨A1, c1, rfl, q1⟩ := h1.1
  replace q1 := q1.1
  have H1 := hid h1
  clear h1
  go_enter Try.func32, Try.ntmps32
  go_wp2_with fail
  refine (new_c 1000 (by omega) (by omega) _).mono ?_
  rintro e w1 ⟨g, v1, rfl, I, F, hgn, hvn⟩
  have S1 := hid (St.new I F hgn hvn)
  have HV1 := hid hvn
  clear I F hgn hvn
  go_wp2_with fail
  refine (new_c 1000 (by omega) (by omega) _).mono ?_
  rintro e w2 ⟨g', v2, rfl, I, F, hgn, hvn⟩
  have S2 := hid (show St2 w w2 g v1 (newD 1000) g' v2 (newD 1000) from
    ⟨S1.out.keep F, St.new I (S1.out.fr.fresh_no F) (Nat.le_trans S1.out.fr.size hgn) hvn, by have := S1.out.disk.lt; omega, fun k hk _ => HV1.out k hk⟩)
  clear I F hgn hvn S1 HV1
  go_wp2_with fail
  go_loopg [10] 50 (fun q v10 w' => ∃ (i : Nat) (v v' : Value) (d : DSt), v10 = .int .i64 i ∧ i ≤ 50 ∧ q = 50 - i ∧ Hid (St2 w w' g v d g' v' d))
  case atStart => exact ⟨0, v1, v2, newD 1000, rfl, by omega, rfl, S2⟩
  case round =>
    clear S2
    obtain ⟨i, v, v', d, rfl, hi, hq, HS⟩ := hrel
    have HQ := hid hq
    clear hq
    by_cases d1 : i < os.length ∧ i < 50
    · obtain ⟨d1, d2⟩ := d1
      obtain ⟨b, off, kind, n, As, cs, ys, rfl, hz, hc0, hc1, hc2, hok⟩ := (H1.out.keep HS.out.a.fr).at_ d1
      have HZ := hid hz
      have HOK := hid hok
      have HOLD := hid ((H1.out.2 _ (List.mem_of_getElem? hz)).1.2)
      clear hz hok
      have i50 : (i : Int) < 50 := by omega
      by_cases d3 : ys.length ≤ 200
      · have HYG := hid (show 0 < ys.length → ∀ k, Of (.slice As ys.length cs) k → ¬ Its g v k from fun h0 k hk hi => by have h1 := HOLD.out h0 k hk; have h2 := HS.out.a.its hi; omega)
        have HYG' := hid (show 0 < ys.length → ∀ k, Of (.slice As ys.length cs) k → ¬ Its g' v' k from fun h0 k hk hi => by have h1 := HOLD.out h0 k hk; have h2 := HS.out.b.its hi; omega)
        go_wp2_with fail
        refine (does_c HS.out.a.disk kind n HOK.out.2.2.2.2 _ ys HOK.out.1.1 HYG.out (by omega) _ rfl).mono ?_
        rintro e w3 hr
        obtain ⟨v3, rfl, S'⟩ := HS.out.step (Fr.refl No _) hr
        have S3 := hid S'
        clear S' hr
        have HY3 := hid (HOK.out.1.1.keep_ (S := No) (Fr.refl No _) (fun _ k _ => not_no k))
        obtain ⟨b2, off2, kind2, n2, As2, cs2, ys2, e1, e2, hd0, hd1, hd2, hok2⟩ := (H1.out.keep S3.out.a.fr).at_ d1
        injection e1 with e1
        injection e1 with e1 e1'
        subst e1 e1'
        rw [HZ.out] at e2
        injection e2 with e2
        injection e2 with e2 e3 e4 e5
        injection e4 with e4 _ e6
        subst e2 e3 e5 e4 e6
        have HOK2 := hid hok2
        clear hok2 HY3
        go_wp2_with fail
        refine (does_c S3.out.b.disk kind n HOK.out.2.2.2.2 _ ys HOK2.out.1.1 HYG'.out (by omega) _ rfl).mono ?_
        rintro e w4 hr
        obtain ⟨v4, rfl, S'⟩ := S3.out.swap.step (Fr.refl No _) hr
        have S4 := hid S'.swap
        clear S' hr
        go_wp2_with fail
        go_roundg (50 - (i + 1))
        case measure => have := HQ.out; omega
        case rel => exact ⟨i + 1, v3, v4, _, by go_num, by omega, rfl, S4⟩
      · go_wp2_with fail
        go_roundg (50 - (i + 1))
        case measure => have := HQ.out; omega
        case rel => exact ⟨i + 1, v, v', d, by go_num, by omega, rfl, HS⟩
    · have hend : i = 50 ∧ i < os.length ∨ ¬ i < os.length := by omega
      clear d1
      rcases hend with ⟨he1, he2⟩ | he1
      all_goals
        go_wp2_with fail
        go_ret2
        exact ⟨g, v, g', v', d, rfl, HS.out⟩
end Go.Proofs.Ytfilmehekibmbaa
