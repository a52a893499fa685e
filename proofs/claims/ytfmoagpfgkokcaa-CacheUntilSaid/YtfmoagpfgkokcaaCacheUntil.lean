import Derived.Test.YtfmoagpfgkokcaaCacheI
import Derived.Test.YtfmoagpfgkokcaaOpsL
/-! CacheUntil. -/
namespace Go.Proofs.Ytfmoagpfgkokcaa
open Go.RowKit
set_option linter.unusedVariables false
set_option linter.unusedSimpArgs false

theorem putE_one (k : K2) (e : Ev) : putE k e [] = [(k, e)] := rfl
theorem getE_same (k : K2) (e : Ev) : getE k [(k, e)] = some e := by simp [getE]
theorem getE_other {k k' : K2} (e : Ev) (h : k' ≠ k) : getE k' [(k, e)] = none := by
  have h' : ¬ k = k' := fun e => h e.symm
  simp [getE, h']
theorem wasE_same (k : K2) (e : Ev) : wasE k [(k, e)] = e := by simp [wasE, getE_same]
set_option maxRecDepth 100000 in
set_option maxHeartbeats 2000000 in
theorem cacheUntil_c (x0 x1 a b : Nat) (h0 : x0 ≤ 255) (h1 : x1 ≤ 255) (ha : a ≤ 255) (hb : b ≤ 255) (w : World) : Calls Try.prog 4 #[.agg #[.int .u8 x0, .int .u8 x1], .int .u8 a, .int .u8 b] w (RetT w) := by
  obtain ⟨v, hv⟩ : ∃ v : Nat, (x0 : Int) % 10 = v := ⟨x0 % 10, by omega⟩
  obtain ⟨fn, hfn⟩ : ∃ fn : Nat, (x1 : Int) % 10 = fn := ⟨x1 % 10, by omega⟩
  obtain ⟨u, hu⟩ : ∃ u : Nat, (a : Int) % 100 = u := ⟨a % 100, by omega⟩
  obtain ⟨t, ht⟩ : ∃ t : Nat, (b : Int) % 100 = t := ⟨b % 100, by omega⟩
  have bv : v ≤ 9 := by omega
  have bf : fn ≤ 9 := by omega
  have wv : IntKind.i64.wrap ((v : Int) + 1) = (v : Int) + 1 := by rw [IntKind.wrap_i64]; omega
  have wf : IntKind.i64.wrap ((fn : Int) + 1) = (fn : Int) + 1 := by rw [IntKind.wrap_i64]; omega
  obtain ⟨W, hW⟩ : ∃ W, w.alloc (.cells #[.int .u8 x0, .int .u8 x1] 38) = W := ⟨_, rfl⟩
  have HW := hid hW
  have FW := hid (show Fr No w W from hW ▸ (Fr.refl No w).alloc _)
  have HX := hid (show Blk W w.heap.size 38 #[.int .u8 x0, .int .u8 x1] from hW ▸ Blk.new w _ _)
  clear hW
  go_enter Try.func4, Try.ntmps4
  go_upto_region 1 with fail
  rw [HW.out]
  have KS := hid (show ∀ w', Fr No W w' → w'.cell? ⟨w.heap.size, 0, none⟩ = some (.int .u8 x0) ∧ w'.cell? ⟨w.heap.size, 1, none⟩ = some (.int .u8 x1) from fun w' hf => ⟨(HX.out.keep hf (not_no _)).cell 0, (HX.out.keep hf (not_no _)).cell 1⟩)
  go_region_held_law (fun w' => w'.cell? ⟨w.heap.size, 0, none⟩ = some (.int .u8 x0) ∧ w'.cell? ⟨w.heap.size, 1, none⟩ = some (.int .u8 x1))
    (first | exact KS.out _ ((Fr.refl _ W).drew) | exact KS.out _ (Fr.refl _ W) | fail) (fail)
  have qv : IntKind.i64.wrap ((x0 : Int).tmod 10) = v := by rw [Int.tmod_eq_emod_of_nonneg (by omega), IntKind.wrap_i64]; omega
  have qf : IntKind.i64.wrap ((x1 : Int).tmod 10) = fn := by rw [Int.tmod_eq_emod_of_nonneg (by omega), IntKind.wrap_i64]; omega
  have qu : IntKind.i64.wrap ((a : Int).tmod 100) = u := by rw [Int.tmod_eq_emod_of_nonneg (by omega), IntKind.wrap_i64]; omega
  have qt : IntKind.i64.wrap ((b : Int).tmod 100) = t := by rw [Int.tmod_eq_emod_of_nonneg (by omega), IntKind.wrap_i64]; omega
  rw [qv, qf, qu, qt]
  clear qv qf qu qt hv hfn hu ht
  have FWD := hid (FW.out.drew)
  go_wp2_with fail
  refine (new_c _).mono ?_
  rintro en w3 ⟨g, bb, fb, rfl, t3, f3, sg, sb, sfb⟩
  have HT3 := hid t3
  have HF3 := hid (FWD.out.fresh_no f3)
  have HSB := hid (Nat.le_trans FWD.out.size sb)
  clear t3 f3 sg sb sfb
  go_wp2_with fail
  refine (coded_c _ _ _ _ _).mono ?_
  rintro en w4 ⟨rfl, f4⟩
  have HT4 := hid (HT3.out.keep f4)
  have HF4 := hid (HF3.out.fresh_no f4)
  rw [show (Ev.mk v 1 u fn 1 [] (.slice none 0 0)).val = .agg #[.int .i64 v, .int .i64 1, .int .i64 u, .int .i64 fn, .int .i64 1, .slice none 0 0, .slice none 0 0, .slice none 0 0] from rfl]
  clear f4
  go_wp2_with fail
  refine (put_ok HT4.out ⟨v, 1, u, fn, 1, [], .slice none 0 0⟩ (nil_ok _ _ _ _ _ _) rfl rfl).mono ?_
  rintro en w5 ⟨nv5, rfl, t5, f5⟩
  rw [putE_one] at t5
  have HT5 := hid (show IsC w5 g bb fb [(((v : Int), (fn : Int)), ⟨v, 1, u, fn, 1, [], nv5⟩)] [] from t5)
  have HF5 := hid (HF4.out.fresh f5 (fun z e => by rw [e]; exact HSB.out))
  clear t5 f5
  go_wp2_with fail
  refine (len_c HT5.out).mono ?_
  rintro en wx ⟨rfl, hwx⟩
  subst hwx
  have HN1 := hid (show has ((v : Int) + 1, (fn : Int)) t [(((v : Int), (fn : Int)), ⟨v, 1, u, fn, 1, [], nv5⟩)] = false by
    unfold has
    rw [getE_other _ (by intro e; simp only [Prod.mk.injEq] at e; omega)]
    rfl)
  have HN2 := hid (show has ((v : Int), (fn : Int) + 1) t [(((v : Int), (fn : Int)), ⟨v, 1, u, fn, 1, [], nv5⟩)] = false by
    unfold has
    rw [getE_other _ (by intro e; simp only [Prod.mk.injEq] at e; omega)]
    rfl)
  by_cases hut : t < u
  · have d1 : (t : Int) < u := by omega
    have d2 : ¬ (u : Int) ≤ t := by omega
    have HEXP := hid (show ∀ nv : Value, ([(((v : Int), (fn : Int)), (⟨v, 1, u, fn, 1, [], nv⟩ : Ev))] : List (K2 × Ev)).filter (fun p => !goneE t p.2) = [(((v : Int), (fn : Int)), ⟨v, 1, u, fn, 1, [], nv⟩)] from fun nv => by
      simp [goneE]
      omega)
    go_wp2_with fail
    refine (get_yes HT5.out v fn t (by unfold has; rw [getE_same, wasE_same]; simp; omega)).mono ?_
    rw [wasE_same]
    rintro en w7 ⟨A7, c7, rfl, f7⟩
    dsimp only [List.length_nil]
    have HT7 := hid ((HT5.out.keep f7).keep ((Fr.refl No w7).alloc (.cells #[.int .i64 fn, .int .i64 1, .slice none 0 0, .slice none 0 0, .slice A7 0 c7] 26)))
    have HF7 := hid ((HF5.out.fresh_no f7).alloc (.cells #[.int .i64 fn, .int .i64 1, .slice none 0 0, .slice none 0 0, .slice A7 0 c7] 26))
    have HM7 := hid (Blk.new w7 26 #[.int .i64 fn, .int .i64 1, .slice none 0 0, .slice none 0 0, .slice A7 0 c7])
    clear f7
    go_wp2_with fail
    refine (get_no HT7.out ((v : Int) + 1) fn t HN1.out).mono ?_
    rintro en w8 ⟨rfl, f8⟩
    have HT8 := hid ((HT7.out.keep f8).keep ((Fr.refl No w8).alloc (.cells #[.int .i64 0, .int .i64 0, .slice none 0 0, .slice none 0 0, .slice none 0 0] 26)))
    have HF8 := hid ((HF7.out.fresh_no f8).alloc (.cells #[.int .i64 0, .int .i64 0, .slice none 0 0, .slice none 0 0, .slice none 0 0] 26))
    have HM8 := hid ((HM7.out.keep f8 (not_no _)).alloc (.cells #[.int .i64 0, .int .i64 0, .slice none 0 0, .slice none 0 0, .slice none 0 0] 26))
    clear f8
    unfold zeroFast
    go_wp2_with fail
    refine (get_no HT8.out v ((fn : Int) + 1) t HN2.out).mono ?_
    rintro en w9 ⟨rfl, f9⟩
    have HT9 := hid ((HT8.out.keep f9).keep ((Fr.refl No w9).alloc (.cells #[.int .i64 0, .int .i64 0, .slice none 0 0, .slice none 0 0, .slice none 0 0] 26)))
    have HF9 := hid ((HF8.out.fresh_no f9).alloc (.cells #[.int .i64 0, .int .i64 0, .slice none 0 0, .slice none 0 0, .slice none 0 0] 26))
    have m0 := ((HM8.out.keep f9 (not_no _)).alloc (.cells #[.int .i64 0, .int .i64 0, .slice none 0 0, .slice none 0 0, .slice none 0 0] 26)).cell 0
    clear f9
    unfold zeroFast
    go_wp2_with fail
    refine (expire_c HT9.out t (by show 1 ≤ 1000000; decide)).mono ?_
    rintro en w10 ⟨rfl, t10, f10⟩
    rw [HEXP.out nv5] at t10 ⊢
    have HT10 := hid t10
    have HF10 := hid (HF9.out.fresh f10 (fun z e => by rw [e]; exact HSB.out))
    clear t10 f10
    rw [show ((([(((v : Int), (fn : Int)), (⟨v, 1, u, fn, 1, [], nv5⟩ : Ev))] : List (K2 × Ev)).length : Int) - (([(((v : Int), (fn : Int)), (⟨v, 1, u, fn, 1, [], nv5⟩ : Ev))] : List (K2 × Ev)).length : Int)) = 0 from rfl]
    go_wp2_with fail
    refine (len_c HT10.out).mono ?_
    rintro en wx ⟨rfl, rfl⟩
    rw [show ((([(((v : Int), (fn : Int)), (⟨v, 1, u, fn, 1, [], nv5⟩ : Ev))] : List (K2 × Ev)).length : Nat) : Int) = 1 from rfl]
    go_wp2_with fail
    refine (awake_c _).mono ?_
    rintro en w11 ⟨rfl, f11⟩
    have HF11 := hid (HF10.out.fresh_no f11)
    go_wp2_with fail
    go_ret
    exact ⟨by first | rfl | (show Ending.returned (.bool (!decide (u ≤ t))) = _; rw [decide_eq_false (by omega)]; rfl), HF11.out⟩
  · have d1 : ¬ (t : Int) < u := by omega
    have d2 : (u : Int) ≤ t := by omega
    have HEXP := hid (show ∀ nv : Value, ([(((v : Int), (fn : Int)), (⟨v, 1, u, fn, 1, [], nv⟩ : Ev))] : List (K2 × Ev)).filter (fun p => !goneE t p.2) = [] from fun nv => by
      simp [goneE]
      omega)
    go_wp2_with fail
    refine (get_no HT5.out v fn t (by unfold has; rw [getE_same, wasE_same]; simp; omega)).mono ?_
    rintro en w7 ⟨rfl, f7⟩
    have HT7 := hid ((HT5.out.keep f7).keep ((Fr.refl No w7).alloc (.cells #[.int .i64 0, .int .i64 0, .slice none 0 0, .slice none 0 0, .slice none 0 0] 26)))
    have HF7 := hid ((HF5.out.fresh_no f7).alloc (.cells #[.int .i64 0, .int .i64 0, .slice none 0 0, .slice none 0 0, .slice none 0 0] 26))
    clear f7
    unfold zeroFast
    go_wp2_with fail
    refine (get_no HT7.out ((v : Int) + 1) fn t HN1.out).mono ?_
    rintro en w8 ⟨rfl, f8⟩
    have HT8 := hid ((HT7.out.keep f8).keep ((Fr.refl No w8).alloc (.cells #[.int .i64 0, .int .i64 0, .slice none 0 0, .slice none 0 0, .slice none 0 0] 26)))
    have HF8 := hid ((HF7.out.fresh_no f8).alloc (.cells #[.int .i64 0, .int .i64 0, .slice none 0 0, .slice none 0 0, .slice none 0 0] 26))
    clear f8
    unfold zeroFast
    go_wp2_with fail
    refine (get_no HT8.out v ((fn : Int) + 1) t HN2.out).mono ?_
    rintro en w9 ⟨rfl, f9⟩
    have HT9 := hid ((HT8.out.keep f9).keep ((Fr.refl No w9).alloc (.cells #[.int .i64 0, .int .i64 0, .slice none 0 0, .slice none 0 0, .slice none 0 0] 26)))
    have HF9 := hid ((HF8.out.fresh_no f9).alloc (.cells #[.int .i64 0, .int .i64 0, .slice none 0 0, .slice none 0 0, .slice none 0 0] 26))
    clear f9
    unfold zeroFast
    go_wp2_with fail
    refine (expire_c HT9.out t (by show 1 ≤ 1000000; decide)).mono ?_
    rintro en w10 ⟨rfl, t10, f10⟩
    rw [HEXP.out nv5] at t10 ⊢
    have HT10 := hid t10
    have HF10 := hid (HF9.out.fresh f10 (fun z e => by rw [e]; exact HSB.out))
    clear t10 f10
    rw [show ((([(((v : Int), (fn : Int)), (⟨v, 1, u, fn, 1, [], nv5⟩ : Ev))] : List (K2 × Ev)).length : Int) - (([] : List (K2 × Ev)).length : Int)) = 1 from rfl]
    go_wp2_with fail
    refine (len_c HT10.out).mono ?_
    rintro en wx ⟨rfl, rfl⟩
    rw [show ((([] : List (K2 × Ev)).length : Nat) : Int) = 0 from rfl]
    go_wp2_with fail
    refine (awake_c _).mono ?_
    rintro en w11 ⟨rfl, f11⟩
    have HF11 := hid (HF10.out.fresh_no f11)
    go_wp2_with fail
    go_ret
    exact ⟨by first | rfl | (show Ending.returned (.bool (!decide (u ≤ t))) = _; rw [decide_eq_false (by omega)]; rfl), HF11.out⟩
end Go.Proofs.Ytfmoagpfgkokcaa
