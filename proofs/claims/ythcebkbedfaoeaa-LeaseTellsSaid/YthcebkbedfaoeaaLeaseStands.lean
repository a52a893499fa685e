import Derived.Test.YthcebkbedfaoeaaAllD
import Derived.Test.YthcebkbedfaoeaaOpsL
/-! LeaseStands. -/
namespace Go.Proofs.Ythcebkbedfaoeaa
open Go.RowKit
set_option linter.unusedVariables false
set_option linter.unusedSimpArgs false

theorem grant_first {w : World} {g b : Nat} {n l s : Int} (h : IsTab w g b n l s []) (node version fn epoch tick : Int) (hn : 0 ≤ node ∧ node < n) (hv : 0 ≤ version ∧ version ≤ 1099511627776) (hf : 0 ≤ fn ∧ fn ≤ 1099511627776)
    (he : 0 ≤ epoch ∧ epoch ≤ 1099511627776) (ht : 0 ≤ tick ∧ tick ≤ 1099511627776) (hl : 0 ≤ l ∧ l ≤ 1048576) :
    Calls Try.prog 9 #[.pointer (some ⟨g, 0, none⟩), .int .i64 node, .int .i64 version, .int .i64 fn, .int .i64 epoch, .int .i64 tick] w fun e w' =>
      e = .returned (.tuple #[.agg #[.int .i64 node, .int .i64 version, .int .i64 fn, .int .i64 epoch, .int .i64 (tick + l)], .int .i64 0]) ∧ IsTab w' g b n l s [((node, version, fn), ⟨node, version, fn, epoch, tick + l⟩)] ∧ Fr (fun x => x = b) w w' := by
  have hm : max (tick + l) (wasOf (node, version, fn) []).till = tick + l := by
    show max (tick + l) 0 = tick + l
    omega
  have hc := grant_ok h node version fn epoch tick hn hv hf he ht hl (show 0 ≤ epoch from he.1)
  rw [hm] at hc
  exact hc
set_option maxRecDepth 100000 in
set_option maxHeartbeats 2000000 in
theorem leaseStands_c (x0 x1 x2 x3 a c : Nat) (h0 : x0 ≤ 255) (h1 : x1 ≤ 255) (h2 : x2 ≤ 255) (h3 : x3 ≤ 255) (ha : a ≤ 255) (hc : c ≤ 255) (w : World) :
    Calls Try.prog 4 #[.agg #[.int .u8 x0, .int .u8 x1, .int .u8 x2, .int .u8 x3], .int .u8 a, .int .u8 c] w (RetT w) := by
  obtain ⟨l, hl⟩ : ∃ l : Nat, (1 : Int) + (x0 : Int) % 50 = l := ⟨1 + x0 % 50, by omega⟩
  obtain ⟨s, hs⟩ : ∃ s : Nat, (x1 : Int) % 21 = s := ⟨x1 % 21, by omega⟩
  obtain ⟨t0, ht0⟩ : ∃ t : Nat, (x2 : Int) % 51 = t := ⟨x2 % 51, by omega⟩
  obtain ⟨t1, ht1⟩ : ∃ t : Nat, (x3 : Int) % 201 = t := ⟨x3 % 201, by omega⟩
  obtain ⟨ep, hep⟩ : ∃ t : Nat, (a : Int) % 6 = t := ⟨a % 6, by omega⟩
  obtain ⟨ak, hak⟩ : ∃ t : Nat, (c : Int) % 8 = t := ⟨c % 8, by omega⟩
  have b1 : 1 ≤ l := by omega
  have b2 : l ≤ 50 := by omega
  have b3 : s ≤ 20 := by omega
  have b4 : t0 ≤ 50 := by omega
  have b5 : t1 ≤ 200 := by omega
  have b6 : ep ≤ 5 := by omega
  have b7 : ak ≤ 7 := by omega
  have HL := hid hl
  have HS := hid hs
  have HT0 := hid ht0
  have HT1 := hid ht1
  have HEP := hid hep
  have HAS := hid hak
  clear hl hs ht0 ht1 hep hak
  obtain ⟨W, hW⟩ : ∃ W, w.alloc (.cells #[.int .u8 x0, .int .u8 x1, .int .u8 x2, .int .u8 x3] 42) = W := ⟨_, rfl⟩
  have HW := hid hW
  have FW := hid (show Fr No w W from hW ▸ (Fr.refl No w).alloc _)
  have HX := hid (show Blk W w.heap.size 42 #[.int .u8 x0, .int .u8 x1, .int .u8 x2, .int .u8 x3] from hW ▸ Blk.new w _ _)
  clear hW
  go_enter Try.func4, Try.ntmps4
  go_upto_region 1 with fail
  rw [HW.out]
  have KS := hid (show ∀ w', Fr No W w' → w'.cell? ⟨w.heap.size, 0, none⟩ = some (.int .u8 x0) ∧ w'.cell? ⟨w.heap.size, 1, none⟩ = some (.int .u8 x1) ∧ w'.cell? ⟨w.heap.size, 2, none⟩ = some (.int .u8 x2) ∧ w'.cell? ⟨w.heap.size, 3, none⟩ = some (.int .u8 x3) from fun w' hf => ⟨(HX.out.keep hf (not_no _)).cell 0, (HX.out.keep hf (not_no _)).cell 1, (HX.out.keep hf (not_no _)).cell 2, (HX.out.keep hf (not_no _)).cell 3⟩)
  go_region_held_law (fun w' => w'.cell? ⟨w.heap.size, 0, none⟩ = some (.int .u8 x0) ∧ w'.cell? ⟨w.heap.size, 1, none⟩ = some (.int .u8 x1) ∧ w'.cell? ⟨w.heap.size, 2, none⟩ = some (.int .u8 x2) ∧ w'.cell? ⟨w.heap.size, 3, none⟩ = some (.int .u8 x3))
    (first | exact KS.out _ ((Fr.refl _ W).drew) | exact KS.out _ (Fr.refl _ W) | fail) (fail)
  have q1 := hid (show IntKind.i64.wrap (1 + IntKind.i64.wrap ((x0 : Int).tmod 50)) = l from by
    have i1 : IntKind.i64.wrap ((x0 : Int).tmod 50) = (x0 : Int) % 50 := by rw [Int.tmod_eq_emod_of_nonneg (by omega), IntKind.wrap_i64]; omega
    rw [i1, HL.out, IntKind.wrap_i64]
    clear i1
    omega)
  have q2 := hid (show IntKind.i64.wrap ((x1 : Int).tmod 21) = s from by rw [Int.tmod_eq_emod_of_nonneg (by omega), IntKind.wrap_i64]; have := HS.out; omega)
  have q3 := hid (show IntKind.i64.wrap ((x2 : Int).tmod 51) = t0 from by rw [Int.tmod_eq_emod_of_nonneg (by omega), IntKind.wrap_i64]; have := HT0.out; omega)
  have q4 := hid (show IntKind.i64.wrap ((x3 : Int).tmod 201) = t1 from by rw [Int.tmod_eq_emod_of_nonneg (by omega), IntKind.wrap_i64]; have := HT1.out; omega)
  rw [q1.out, q2.out, q3.out, q4.out]
  clear q1 q2 q3 q4 HL HS HT0 HT1
  have FWD := hid (FW.out.drew)
  go_wp2_with fail
  refine (new_c _ 3 l s (by decide) (by decide) (by omega) (by omega) (by omega) (by omega)).mono ?_
  rintro e w1 ⟨g, b, rfl, tb, f1, sg, sb⟩
  have HTB := hid tb
  have HF1 := hid (FWD.out.fresh_no f1)
  have HSB := hid (Nat.le_trans FWD.out.size sb)
  clear tb f1 sg sb
  go_wp2_with fail
  rw [HEP.out]
  refine (grant_first HTB.out 1 1 4 ep t0 (by omega) (by omega) (by omega) (by omega) (by omega) (by omega)).mono ?_
  rintro e w2 ⟨rfl, tb, f2⟩
  have HF2 := hid ((HF1.out.fresh f2 (fun x e => by rw [e]; exact HSB.out)).alloc (.cells #[.int .i64 1, .int .i64 1, .int .i64 4, .int .i64 ep, .int .i64 (t0 + l)] 30))
  have HT2 := hid (tb.keep ((Fr.refl No w2).alloc (.cells #[.int .i64 1, .int .i64 1, .int .i64 4, .int .i64 ep, .int .i64 (t0 + l)] 30)))
  clear tb f2
  have HTL := hid (show Tills [((1, 1, 4), Ls.mk 1 1 4 ep (t0 + l))] from fun p hp => by simp at hp; subst hp; exact ⟨by show (0 : Int) ≤ t0 + l; omega, by show (t0 : Int) + l ≤ _; omega⟩)
  by_cases c1 : (t1 : Int) < t0 + l + s
  · by_cases c2 : (ep : Int) < ak
    · have c3 : (a : Int) % 6 < (c : Int) % 8 := by rw [HEP.out, HAS.out]; exact c2
      have HWN := hid (show Rd 1 (((w2.alloc (.cells #[.int .i64 1, .int .i64 1, .int .i64 4, .int .i64 ep, .int .i64 (t0 + l)] 30)).alloc (.cells #[] 3)).alloc (.cells #[.int .i64 1] 3)) (.slice (some ⟨w2.heap.size + 1 + 1, 0, none⟩) 1 1) 1 (ints [1]) from by
        have h := Rd.one ((w2.alloc (.cells #[.int .i64 1, .int .i64 1, .int .i64 4, .int .i64 ep, .int .i64 (t0 + l)] 30)).alloc (.cells #[] 3)) 1
        rwa [show ((w2.alloc (.cells #[.int .i64 1, .int .i64 1, .int .i64 4, .int .i64 ep, .int .i64 (t0 + l)] 30)).alloc (.cells #[] 3)).heap.size = w2.heap.size + 1 + 1 by simp] at h)
      go_wp2_with fail
      rw [HAS.out]
      have HT3 := hid (HT2.out.keep (((Fr.refl No (w2.alloc (.cells #[.int .i64 1, .int .i64 1, .int .i64 4, .int .i64 ep, .int .i64 (t0 + l)] 30))).alloc (.cells #[] 3)).alloc (.cells #[.int .i64 1] 3)))
      have HF3 := hid (HF2.out.fresh_no (((Fr.refl No (w2.alloc (.cells #[.int .i64 1, .int .i64 1, .int .i64 4, .int .i64 ep, .int .i64 (t0 + l)] 30))).alloc (.cells #[] 3)).alloc (.cells #[.int .i64 1] 3)))
      refine (holders_c HT3.out ak t1 HTL.out (by simp) (by omega)).mono ?_
      rintro e w4 ⟨v4, rfl, o4, f4, s4⟩
      rw [holders_one, show holdB (ak : Int) (s : Int) (t1 : Int) (Ls.mk 1 1 4 ep (t0 + l)) = true by simp [holdB, stands]; omega] at o4
      have HO4 := hid (show Own 3 1 w4 v4 (([1] : List Int)).length (ints [1]) from o4)
      have HT4 := hid (HT3.out.keep f4)
      have HF4 := hid (HF3.out.fresh_no f4)
      have HW4 := hid (HWN.out.keep f4 (fun x _ => not_no x))
      clear o4 f4 s4 c3
      go_wp2_with fail
      refine (sameI_c _ _ _ [1] [1] HO4.out.rd HW4.out (by decide)).mono ?_
      rintro e w5 ⟨rfl, f5⟩
      rw [decide_eq_true rfl]
      have HT5 := hid (HT4.out.keep f5)
      have HF5 := hid (HF4.out.fresh_no f5)
      clear f5
      go_wp2_with fail
      refine (expire_c HT5.out t1 HTL.out (by simp) (by omega)).mono ?_
      rintro e w6 ⟨rfl, t6, f6⟩
      rw [show ([((1, 1, 4), (Ls.mk 1 1 4 ep (t0 + l)))] : List (K3 × Ls)).filter (fun p => !goesE (s : Int) (t1 : Int) p.2) = [((1, 1, 4), Ls.mk 1 1 4 ep (t0 + l))] by simp [goesE, stands]; omega] at t6 ⊢
      rw [show (([((1, 1, 4), (Ls.mk 1 1 4 ep (t0 + l)))] : List (K3 × Ls)).length : Int) - (([((1, 1, 4), Ls.mk 1 1 4 ep (t0 + l))] : List (K3 × Ls)).length : Nat) = 0 from rfl]
      have HT6 := hid t6
      have HF6 := hid (HF5.out.fresh f6 (fun x e => by rw [e]; exact HSB.out))
      clear t6 f6
      go_wp2_with fail
      refine (all_c HT6.out (by simp)).mono ?_
      rintro e w7 ⟨v7, ys, rfl, hp, _, o7, f7, _⟩
      obtain ⟨A7, c7, rfl, _, _⟩ := o7.slice
      have hyl : ys.length = 1 := by have := hp.length_eq; simpa using this
      rw [hyl]
      have HF7 := hid (HF6.out.fresh_no f7)
      clear hyl hp o7 f7
      go_wp2_with fail
      refine (awake_c _).mono ?_
      rintro e w8 ⟨rfl, f8⟩
      have HF8 := hid (HF7.out.fresh_no f8)
      go_wp2_with fail
      go_ret
      exact ⟨rfl, HF8.out⟩
    · have c3 : ¬ (a : Int) % 6 < (c : Int) % 8 := by rw [HEP.out, HAS.out]; exact c2
      have HWN := hid (show Rd 1 ((w2.alloc (.cells #[.int .i64 1, .int .i64 1, .int .i64 4, .int .i64 ep, .int .i64 (t0 + l)] 30)).alloc (.cells #[] 3)) (.slice (some ⟨w2.heap.size + 1, 0, none⟩) 0 0) 0 (ints []) from ⟨_, 0, rfl, Nat.le_refl _, rfl, fun h => absurd h (by omega)⟩)
      go_wp2_with fail
      rw [HAS.out]
      have HT3 := hid (HT2.out.keep ((Fr.refl No (w2.alloc (.cells #[.int .i64 1, .int .i64 1, .int .i64 4, .int .i64 ep, .int .i64 (t0 + l)] 30))).alloc (.cells #[] 3)))
      have HF3 := hid (HF2.out.fresh_no ((Fr.refl No (w2.alloc (.cells #[.int .i64 1, .int .i64 1, .int .i64 4, .int .i64 ep, .int .i64 (t0 + l)] 30))).alloc (.cells #[] 3)))
      refine (holders_c HT3.out ak t1 HTL.out (by simp) (by omega)).mono ?_
      rintro e w4 ⟨v4, rfl, o4, f4, s4⟩
      rw [holders_one, show holdB (ak : Int) (s : Int) (t1 : Int) (Ls.mk 1 1 4 ep (t0 + l)) = false by simp [holdB, stands]; omega] at o4
      have HO4 := hid (show Own 3 1 w4 v4 (([] : List Int)).length (ints []) from o4)
      have HT4 := hid (HT3.out.keep f4)
      have HF4 := hid (HF3.out.fresh_no f4)
      have HW4 := hid (HWN.out.keep f4 (fun x _ => not_no x))
      clear o4 f4 s4 c3
      go_wp2_with fail
      refine (sameI_c _ _ _ [] [] HO4.out.rd HW4.out (by decide)).mono ?_
      rintro e w5 ⟨rfl, f5⟩
      rw [decide_eq_true rfl]
      have HT5 := hid (HT4.out.keep f5)
      have HF5 := hid (HF4.out.fresh_no f5)
      clear f5
      go_wp2_with fail
      refine (expire_c HT5.out t1 HTL.out (by simp) (by omega)).mono ?_
      rintro e w6 ⟨rfl, t6, f6⟩
      rw [show ([((1, 1, 4), (Ls.mk 1 1 4 ep (t0 + l)))] : List (K3 × Ls)).filter (fun p => !goesE (s : Int) (t1 : Int) p.2) = [((1, 1, 4), Ls.mk 1 1 4 ep (t0 + l))] by simp [goesE, stands]; omega] at t6 ⊢
      rw [show (([((1, 1, 4), (Ls.mk 1 1 4 ep (t0 + l)))] : List (K3 × Ls)).length : Int) - (([((1, 1, 4), Ls.mk 1 1 4 ep (t0 + l))] : List (K3 × Ls)).length : Nat) = 0 from rfl]
      have HT6 := hid t6
      have HF6 := hid (HF5.out.fresh f6 (fun x e => by rw [e]; exact HSB.out))
      clear t6 f6
      go_wp2_with fail
      refine (all_c HT6.out (by simp)).mono ?_
      rintro e w7 ⟨v7, ys, rfl, hp, _, o7, f7, _⟩
      obtain ⟨A7, c7, rfl, _, _⟩ := o7.slice
      have hyl : ys.length = 1 := by have := hp.length_eq; simpa using this
      rw [hyl]
      have HF7 := hid (HF6.out.fresh_no f7)
      clear hyl hp o7 f7
      go_wp2_with fail
      refine (awake_c _).mono ?_
      rintro e w8 ⟨rfl, f8⟩
      have HF8 := hid (HF7.out.fresh_no f8)
      go_wp2_with fail
      go_ret
      exact ⟨rfl, HF8.out⟩
  · have c3 : True := trivial
    have HWN := hid (show Rd 1 ((w2.alloc (.cells #[.int .i64 1, .int .i64 1, .int .i64 4, .int .i64 ep, .int .i64 (t0 + l)] 30)).alloc (.cells #[] 3)) (.slice (some ⟨w2.heap.size + 1, 0, none⟩) 0 0) 0 (ints []) from ⟨_, 0, rfl, Nat.le_refl _, rfl, fun h => absurd h (by omega)⟩)
    go_wp2_with fail
    rw [HAS.out]
    have HT3 := hid (HT2.out.keep ((Fr.refl No (w2.alloc (.cells #[.int .i64 1, .int .i64 1, .int .i64 4, .int .i64 ep, .int .i64 (t0 + l)] 30))).alloc (.cells #[] 3)))
    have HF3 := hid (HF2.out.fresh_no ((Fr.refl No (w2.alloc (.cells #[.int .i64 1, .int .i64 1, .int .i64 4, .int .i64 ep, .int .i64 (t0 + l)] 30))).alloc (.cells #[] 3)))
    refine (holders_c HT3.out ak t1 HTL.out (by simp) (by omega)).mono ?_
    rintro e w4 ⟨v4, rfl, o4, f4, s4⟩
    rw [holders_one, show holdB (ak : Int) (s : Int) (t1 : Int) (Ls.mk 1 1 4 ep (t0 + l)) = false by simp [holdB, stands]; omega] at o4
    have HO4 := hid (show Own 3 1 w4 v4 (([] : List Int)).length (ints []) from o4)
    have HT4 := hid (HT3.out.keep f4)
    have HF4 := hid (HF3.out.fresh_no f4)
    have HW4 := hid (HWN.out.keep f4 (fun x _ => not_no x))
    clear o4 f4 s4 c3
    go_wp2_with fail
    refine (sameI_c _ _ _ [] [] HO4.out.rd HW4.out (by decide)).mono ?_
    rintro e w5 ⟨rfl, f5⟩
    rw [decide_eq_true rfl]
    have HT5 := hid (HT4.out.keep f5)
    have HF5 := hid (HF4.out.fresh_no f5)
    clear f5
    go_wp2_with fail
    refine (expire_c HT5.out t1 HTL.out (by simp) (by omega)).mono ?_
    rintro e w6 ⟨rfl, t6, f6⟩
    rw [show ([((1, 1, 4), (Ls.mk 1 1 4 ep (t0 + l)))] : List (K3 × Ls)).filter (fun p => !goesE (s : Int) (t1 : Int) p.2) = [] by simp [goesE, stands]; omega] at t6 ⊢
    rw [show (([((1, 1, 4), (Ls.mk 1 1 4 ep (t0 + l)))] : List (K3 × Ls)).length : Int) - (([] : List (K3 × Ls)).length : Nat) = 1 from rfl]
    have HT6 := hid t6
    have HF6 := hid (HF5.out.fresh f6 (fun x e => by rw [e]; exact HSB.out))
    clear t6 f6
    go_wp2_with fail
    refine (all_c HT6.out (by simp)).mono ?_
    rintro e w7 ⟨v7, ys, rfl, hp, _, o7, f7, _⟩
    obtain ⟨A7, c7, rfl, _, _⟩ := o7.slice
    have hyl : ys.length = 0 := by have := hp.length_eq; simpa using this
    rw [hyl]
    have HF7 := hid (HF6.out.fresh_no f7)
    clear hyl hp o7 f7
    go_wp2_with fail
    refine (awake_c _).mono ?_
    rintro e w8 ⟨rfl, f8⟩
    have HF8 := hid (HF7.out.fresh_no f8)
    go_wp2_with fail
    go_ret
    exact ⟨rfl, HF8.out⟩
end Go.Proofs.Ythcebkbedfaoeaa
