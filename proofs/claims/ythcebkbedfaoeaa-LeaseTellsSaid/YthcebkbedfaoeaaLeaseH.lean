import Derived.Test.YthcebkbedfaoeaaLeaseG
/-! Two lists held against each other; the layer's own examples. -/
namespace Go.Proofs.Ythcebkbedfaoeaa
open Go.RowKit
set_option linter.unusedVariables false
set_option linter.unusedSimpArgs false

def RetT (w : World) : Ending → World → Prop := fun en w' => en = .returned (.bool true) ∧ Fr No w w'
theorem Rd.int_at {w : World} {A : Option Addr} {c k : Nat} {zs : List Int} (h : Rd 1 w (.slice A zs.length c) zs.length (ints zs)) (hk : k < zs.length) : ∃ b off z, A = some ⟨b, off, none⟩ ∧ zs[k]? = some z ∧ w.cell? ⟨b, off + k, none⟩ = some (.int .i64 z) := by
  obtain ⟨b, off, c', u, hv, hc, hu, hcell⟩ := h.at_ hk
  injection hv with hA _ _
  have hz : zs[k]? = some zs[k] := List.getElem?_eq_getElem hk
  unfold ints at hu
  rw [List.getElem?_map, hz] at hu
  have hu2 : Value.int .i64 zs[k] = u := Option.some.inj hu
  rw [← hu2] at hcell
  exact ⟨b, off, zs[k], hA, hz, hcell⟩
set_option maxRecDepth 100000 in
set_option maxHeartbeats 2000000 in
theorem sameI_c (w : World) (x y : Value) (xs ys : List Int) (hx : Rd 1 w x xs.length (ints xs)) (hy : Rd 1 w y ys.length (ints ys)) (hl : xs.length ≤ 1000000) :
    Calls Try.prog 16 #[x, y] w fun e w' => e = .returned (.bool (decide (xs = ys))) ∧ Fr No w w' := by
  have HX := hid hx
  have HY := hid hy
  obtain ⟨A1, c1, rfl, q1, _⟩ := hx
  obtain ⟨A2, c2, rfl, q2, _⟩ := hy
  by_cases hne : xs.length = ys.length
  · have d1 : ((xs.length : Int) != (ys.length : Int)) = false := by simp [hne]
    have HN := hid hne
    clear hne
    go_enter Try.func16, Try.ntmps16
    go_wp2_with fail
    go_loopg [5] xs.length (fun q v5 w' => ∃ (i m : Nat), v5 = .int .i64 i ∧ i ≤ xs.length ∧ q = xs.length - i ∧ Hid (w' = w.drewN m) ∧ Hid (xs.take i = ys.take i))
    case atStart => exact ⟨0, 0, rfl, by omega, rfl, rfl, rfl⟩
    case round =>
      obtain ⟨i, m, rfl, hi, hq, HW, HT⟩ := hrel
      have HQ := hid hq
      clear hq
      have hw := HW.out
      subst hw
      by_cases e1 : i < xs.length
      · have e2 : (i : Int) < xs.length := by omega
        have e3 : i < ys.length := by have := HN.out; omega
        obtain ⟨b1, o1, z1, rfl, hz1, k1⟩ := HX.out.int_at e1
        obtain ⟨b2, o2, z2, rfl, hz2, k2⟩ := HY.out.int_at e3
        have HZ1 := hid hz1
        have HZ2 := hid hz2
        clear hz1 hz2
        by_cases g1 : z1 = z2
        · have HG := hid g1
          have g2 : (z1 != z2) = false := by simp [g1]
          have HT2 := hid (show xs.take (i + 1) = ys.take (i + 1) by rw [List.take_add_one, List.take_add_one, HZ1.out, HZ2.out, HT.out, HG.out])
          clear g1
          go_wp2_with fail
          go_quiet (fail)
          go_wp2_with fail
          go_roundg (xs.length - (i + 1))
          case measure => have := HQ.out; omega
          case rel => exact ⟨i + 1, m + nq, by go_num, by omega, rfl, rfl, HT2⟩
        · have g2 : (z1 != z2) = true := bne_iff_ne.2 g1
          have HNE := hid (show ¬ xs = ys from fun e => g1 (by have h1 := HZ1.out; have h2 := HZ2.out; rw [e, h2] at h1; exact (Option.some.inj h1).symm))
          clear g1
          go_wp2_with fail
          go_quiet (fail)
          go_wp2_with fail
          go_ret
          refine ⟨?_, ((Fr.refl No w).drewN _).drewN _⟩
          rw [decide_eq_false HNE.out]
          rfl
      · have e2 : ¬ (i : Int) < xs.length := by omega
        have HE := hid (show xs = ys by
          have hN := HN.out
          have := HT.out
          rwa [List.take_of_length_le (by omega), List.take_of_length_le (by omega)] at this)
        go_wp2_with fail
        go_ret
        refine ⟨?_, (Fr.refl No w).drewN _⟩
        rw [decide_eq_true HE.out]
        rfl
  · have d1 : ((xs.length : Int) != (ys.length : Int)) = true := by
      rw [bne_iff_ne]; omega
    have HNE := hid (show ¬ xs = ys from fun e => hne (by rw [e]))
    clear hne
    go_enter Try.func16, Try.ntmps16
    go_wp2_with fail
    go_ret
    refine ⟨?_, Fr.refl No w⟩
    rw [decide_eq_false HNE.out]
    rfl
theorem holders_one (ep s t : Int) (k : K3) (x : Ls) : holdersL ep s t [(k, x)] = if holdB ep s t x then [x.node] else [] := by
  unfold holdersL nodesOf sorted
  cases h : holdB ep s t x <;> simp [h, compactL, cmp]
set_option maxRecDepth 100000 in
set_option maxHeartbeats 2000000 in
theorem awake_c (w : World) : Calls Try.prog 14 #[] w (RetT w) := by
  go_enter Try.func14, Try.ntmps14
  go_wp2_with fail
  refine (new_c _ 2 10 3 (by decide) (by decide) (by decide) (by decide) (by decide) (by decide)).mono ?_
  rintro e w1 ⟨g, b, rfl, t1, f1, sg, sb⟩
  have HSB := hid sb
  have HT1 := hid t1
  have HF1 := hid f1
  clear t1 f1 sg sb
  go_wp2_with fail
  refine (grant_ok HT1.out 1 1 0 5 20 (by decide) (by decide) (by decide) (by decide) (by decide) (by decide) (by decide)).mono ?_
  rintro e w2 ⟨rfl, t2, f2⟩
  have HT2' := hid t2
  have hms : putT (1, 1, 0) (Ls.mk 1 1 0 5 (max (20 + 10) (wasOf (1, 1, 0) []).till)) [] = [((1, 1, 0), Ls.mk 1 1 0 5 30)] := by rfl
  rw [hms] at HT2'
  have hv : (Ls.mk 1 1 0 5 (max (20 + 10) (wasOf (1, 1, 0) []).till)).val = .agg #[.int .i64 1, .int .i64 1, .int .i64 0, .int .i64 5, .int .i64 30] := by rfl
  rw [hv]
  have HF2 := hid (HF1.out.fresh f2 (fun x e => by rw [e]; exact HSB.out))
  clear t2 f2 hms hv
  have HT2 := hid (HT2'.out.keep ((Fr.refl No w2).alloc (.cells #[.int .i64 1, .int .i64 1, .int .i64 0, .int .i64 5, .int .i64 30] 30)))
  have HF3 := hid (HF2.out.alloc (.cells #[.int .i64 1, .int .i64 1, .int .i64 0, .int .i64 5, .int .i64 30] 30))
  have HTL := hid (show Tills [((1, 1, 0), Ls.mk 1 1 0 5 30)] from fun p hp => by simp at hp; subst hp; exact ⟨by decide, by decide⟩)
  go_wp2_with fail
  refine (holders_c HT2.out 6 32 HTL.out (by decide) (by decide)).mono ?_
  rintro e w4 ⟨v4, rfl, o4, f4, s4⟩
  have HO4 := hid (show Own 3 1 w4 v4 [1].length (ints [1]) from by rw [holders_one] at o4; exact o4)
  have HT4 := hid (HT2.out.keep f4)
  have HF4 := hid (HF3.out.fresh_no f4)
  clear o4 f4 s4
  go_wp2_with fail
  refine (sameI_c _ _ _ [1] [1] (HO4.out.rd.keep ((Fr.refl No w4).alloc (.cells #[.int .i64 1] 3)) (fun x _ => not_no x)) (Rd.one w4 1) (by decide)).mono ?_
  rintro e w5 ⟨rfl, f5⟩
  have HT5 := hid ((HT4.out.keep ((Fr.refl No w4).alloc (.cells #[.int .i64 1] 3))).keep f5)
  have HF5 := hid ((HF4.out.alloc (.cells #[.int .i64 1] 3)).fresh_no f5)
  clear f5
  go_wp2_with fail
  refine (holders_c HT5.out 6 33 HTL.out (by decide) (by decide)).mono ?_
  rintro e w6 ⟨v6, rfl, o6, f6, s6⟩
  obtain ⟨A6, c6, rfl, _, _⟩ := (show Own 3 1 w6 v6 0 [] from by rw [holders_one] at o6; exact o6).slice
  have HT6 := hid (HT5.out.keep f6)
  have HF6 := hid (HF5.out.fresh_no f6)
  clear o6 f6 s6
  go_wp2_with fail
  refine (holders_c HT6.out 5 20 HTL.out (by decide) (by decide)).mono ?_
  rintro e w7 ⟨v7, rfl, o7, f7, s7⟩
  obtain ⟨A7, c7, rfl, _, _⟩ := (show Own 3 1 w7 v7 0 [] from by rw [holders_one] at o7; exact o7).slice
  have HT7 := hid (HT6.out.keep f7)
  have HF7 := hid (HF6.out.fresh_no f7)
  clear o7 f7 s7
  go_wp2_with fail
  refine (acked_c HT7.out 1 6 HTL.out (by decide)).mono ?_
  rintro e w8 ⟨rfl, t8, f8⟩
  have HF8 := hid (HF7.out.fresh f8 (fun x e => by rw [e]; exact HSB.out))
  clear t8 f8
  go_wp2_with fail
  go_ret
  exact ⟨rfl, HF8.out⟩
end Go.Proofs.Ythcebkbedfaoeaa
