import Derived.Test.YtfmoagpfgkokcaaGN
import Derived.Test.YtfmoagpfgkokcaaArrS
import Derived.Deep.DeepCutAuto
import Derived.Deep.CutBlock
/-! CacheRevoked. -/
namespace Go.Proofs.Ytfmoagpfgkokcaa
open Go.RowKit
set_option linter.unusedVariables false
set_option linter.unusedSimpArgs false
attribute [local go_sem ↓] Go.wp_at_zero Go.wp_at_succ

set_option maxRecDepth 100000 in
set_option maxHeartbeats 4000000 in
theorem cacheRevoked_c (y : Value) (os : List OpV) (at_ fn ep : Int) (hat : Is64 at_) (w : World) (hy : RdOps w y os) :
    Calls Try.prog 7 #[y, .int .i64 at_, .agg #[.int .i64 fn, .int .i64 ep]] w (RetT w) := by
  have HY := hid hy
  have HAT := hid hat
  obtain ⟨A1, c1, rfl, hc1, hj0⟩ := hy.1
  clear hy hat hj0
  have HF0 := hid ((Fr.refl No w).alloc (.cells #[.int .i64 fn, .int .i64 ep] 62))
  have HB := hid (Blk.new w 62 #[.int .i64 fn, .int .i64 ep])
  have k0 := HB.out.cell 0
  have k1 := HB.out.cell 1
  go_enter Try.func7, Try.ntmps7
  go_wp2_with fail
  go_region
  clear k0 k1 HB
  have HF1 := hid (HF0.out.drew)
  go_wp2_with fail
  refine (great17_c _ _ os (HY.out.keep HF1.out)).mono ?_
  rintro e w2 ⟨bg, rfl, f2⟩
  have HF2 := hid (HF1.out.fresh_no f2)
  clear f2 HF1 HF0
  cases bg with
  | true =>
    go_wp2_with fail
    refine (awake_c _).mono ?_
    rintro e w7 ⟨rfl, f7⟩
    have HF7 := hid (HF2.out.fresh_no f7)
    go_wp2_with fail
    go_ret
    exact ⟨rfl, HF7.out⟩
  | false =>
    have kx := fun (a b : Int) (w : World) => run_min2 (P := Try.prog) (w := w) (k := .i64) (ats := #[3, 3]) (ty := 3) a b
    obtain ⟨M, hM⟩ : ∃ M : Nat, min (os.length : Int) 60 = M := ⟨min os.length 60, by omega⟩
    have HM := hid (show M ≤ os.length ∧ M ≤ 60 ∧ (M = os.length ∨ M = 60) by omega)
    go_wp2_with fail
    refine (new_c _).mono ?_
    rintro e w3 ⟨g, b, fb, rfl, t3, f3, sg, sb, sfb⟩
    have HC0 := hid (show Cw w w3 g b fb [] [] from ⟨t3, HF2.out.fresh_no f3, Nat.le_trans HF2.out.size sb, Nat.le_trans HF2.out.size sfb⟩)
    clear t3 f3 sg sb sfb HF2
    have hM60 := HM.out.2.1
    go_wp2_with fail
    refine (pick_c at_ (M + 1) HAT.out.1 HAT.out.2 (by omega) (by omega) _).mono ?_
    rintro e wx ⟨rfl, rfl⟩
    have m1 := Int.emod_nonneg at_ (show ((M : Int) + 1) ≠ 0 by omega)
    have m2 := Int.emod_lt_of_pos at_ (show (0 : Int) < (M : Int) + 1 by omega)
    obtain ⟨a, ha⟩ := Int.eq_ofNat_of_zero_le m1
    rw [ha] at m2 ⊢
    have HAM := hid (show a ≤ M by omega)
    clear kx hM m1 m2 ha
    go_wp2_with fail
    go_loopg [10] 61 (fun q v10 w' => ∃ (i : Nat) (ms : List (K2 × Ev)) (fs : List (Int × Int)), v10 = .int .i64 i ∧ i ≤ M ∧ q = 61 - i ∧ Hid (ms.length ≤ i) ∧ Hid (Cw w w' g b fb ms fs) ∧ Hid (Cln fs ms) ∧ Hid (a < i → Fl fn ep fs))
    case atStart => exact ⟨0, [], [], rfl, Nat.zero_le _, rfl, Nat.le_refl _, HC0, (fun p hp => by cases hp), fun h => absurd h (by omega)⟩
    case round =>
      clear HC0
      obtain ⟨i, ms, fs, rfl, hi, hq, HML, HCW, HCL, HFL⟩ := hrel
      have HQ := hid hq
      clear hq
      have e1 : (i : Int) ≤ os.length := by have := HM.out.1; omega
      have e2 : (i : Int) ≤ 60 := by omega
      go_upto_if 40 with fail
      go_cut [10] (fun s10 wq => s10 = .int .i64 i ∧ ∃ (ms : List (K2 × Ev)) (fs : List (Int × Int)), Hid (ms.length ≤ i) ∧ Hid (Cw w wq g b fb ms fs) ∧ Hid (Cln fs ms) ∧ Hid (a ≤ i → Fl fn ep fs))
      case first =>
        by_cases h1 : i = a
        · subst h1
          go_wp2_with fail
          refine (revoke_c HCW.out.c fn ep (by have := HML.out; omega)).mono ?_
          rintro e w5 ⟨rfl, t5, f5⟩
          have HC5 := hid (HCW.out.turn t5 f5)
          clear t5 f5
          go_wp2_with fail
          go_meet
          exact ⟨rfl, _, _, Nat.le_trans (List.length_filter_le _ _) HML.out, HC5, Cln.revoked _ _, fun _ => Fl.first fn ep fs⟩
        · have h2 : ¬ (i : Int) = a := by omega
          go_wp2_with fail
          go_meet
          exact ⟨rfl, ms, fs, HML, HCW, HCL, fun h => HFL.out (by omega)⟩
      case rest =>
        clear HML HCW HCL HFL
        obtain ⟨rfl, ms, fs, HML, HCW, HCL, HFL⟩ := hcut
        go_upto_region 11 with fail
        go_cut [53] (fun s53 wq => s53 = .bool false ∧ Hid (Fr No wc wq))
        case first =>
          by_cases h1 : a ≤ i
          · have h2 : (a : Int) ≤ i := by omega
            have HRS := hid (HCL.out.rests (HFL.out h1))
            go_wp2_with fail
            refine (rests_cc HCW.out.c fn ep).mono ?_
            rintro e w5 ⟨rfl, f5⟩
            have HF5 := hid f5
            clear f5
            rw [HRS.out]
            go_wp2_with fail
            go_meet
            exact ⟨rfl, HF5⟩
          · have h2 : ¬ (a : Int) ≤ i := by omega
            go_wp2_with fail
            go_meet
            exact ⟨rfl, Fr.refl No wc⟩
        case rest =>
          obtain ⟨rfl, HFC⟩ := hcut
          have HC1 := hid (HCW.out.keep HFC.out)
          clear HCW HFC
          by_cases hend : i = M
          · have HRS := hid (HCL.out.rests (HFL.out (by have := HAM.out; omega)))
            have h6 : ¬ (60 : Int) < a := by have h1 := HAM.out; omega
            by_cases q1 : i = os.length
            · have q2 : (i : Int) = os.length := by omega
              clear q1 hend e1 e2
              go_wp2_with fail
              refine (rests_cc HC1.out.c fn ep).mono ?_
              rintro e w5 ⟨rfl, f5⟩
              have HC5 := hid (HC1.out.keep f5)
              clear f5
              rw [HRS.out]
              go_wp2_with fail
              refine (awake_c _).mono ?_
              rintro e w7 ⟨rfl, f7⟩
              have HF7 := hid (HC5.out.fr.fresh_no f7)
              go_wp2_with fail
              go_ret
              exact ⟨rfl, HF7.out⟩
            · have q2 : ¬ (i : Int) = os.length := by omega
              have q3 : (i : Int) = 60 := by have := HM.out.2.2; omega
              clear q1 hend e1 e2
              go_wp2_with fail
              refine (rests_cc HC1.out.c fn ep).mono ?_
              rintro e w5 ⟨rfl, f5⟩
              have HC5 := hid (HC1.out.keep f5)
              clear f5
              rw [HRS.out]
              go_wp2_with fail
              refine (awake_c _).mono ?_
              rintro e w7 ⟨rfl, f7⟩
              have HF7 := hid (HC5.out.fr.fresh_no f7)
              go_wp2_with fail
              go_ret
              exact ⟨rfl, HF7.out⟩
          · have q1 : ¬ (i : Int) = os.length := by have := HM.out.1; omega
            have q2 : ¬ (i : Int) = 60 := by omega
            have n1 : ¬ (((i : Int) == (os.length : Int)) = true ∨ ((i : Int) == 60) = true) := by simp only [beq_iff_eq]; have := HM.out.1; omega
            have d1 : i < os.length := by have := HM.out.1; omega
            have d3 : (i : Int) < os.length := by omega
            have ho : os[i]? = some os[i] := List.getElem?_eq_getElem d1
            have hok := HY.out.2 _ (List.getElem_mem d1)
            generalize os[i] = o at ho hok
            obtain ⟨bb, off, rfl, hbl, hcell⟩ := HY.out.at_ ho
            obtain ⟨An, cn, hnv, hj1⟩ := hok.1.nd
            obtain ⟨Ac, cc, hcv, hj2⟩ := hok.1.cd
            obtain ⟨es0, hj3, ⟨Ax, cx, hxv, hj4⟩, hj5⟩ := hok.1.ex
            clear hj1 hj2 hj3 hj4 hj5
            obtain ⟨hoe, i0, i1, i2, i3, i4, i5, i6, i7, i8⟩ := hok
            obtain ⟨od, ofn, oep, otk, ⟨ev, eep, et, ef, er, cd, cv, ex, xv, nd, nv⟩⟩ := o
            replace hnv : nv = .slice An nd.length cn := hnv
            replace hcv : cv = .slice Ac cd.length cc := hcv
            replace hxv : xv = .slice Ax ex.length cx := hxv
            subst hnv hcv hxv
            have HOK := hid hoe
            have HI0 := hid (show Is64 od from i0)
            have HIS := hid (show -9223372036854775808 ≤ et ∧ et ≤ 9223372036854775807 from i6)
            have q : ∀ j u, (OpV.cells ⟨od, ofn, oep, otk, ⟨ev, eep, et, ef, er, cd, .slice Ac cd.length cc, ex, .slice Ax ex.length cx, nd, .slice An nd.length cn⟩⟩)[j]? = some u → wc.cell? ⟨bb, off + i * 12 + j, none⟩ = some u := fun j u hu => (HC1.out.fr.cell hbl (not_no _) _).trans (hcell j u hu)
            have k0 : wc.cell? ⟨bb, off + i * 12, none⟩ = some (.int .i64 od) := q 0 _ rfl
            have k1 := q 1 _ rfl
            have k2 := q 2 _ rfl
            have k3 := q 3 _ rfl
            have k4 := q 4 _ rfl
            have k5 := q 5 _ rfl
            have k6 := q 6 _ rfl
            have k7 := q 7 _ rfl
            have k8 := q 8 _ rfl
            have k9 := q 9 _ rfl
            have k10 := q 10 _ rfl
            have k11 := q 11 _ rfl
            have HBX := hid (Blk.new wc 57 #[.int .i64 od, .int .i64 ofn, .int .i64 oep, .int .i64 otk, .int .i64 ev, .int .i64 eep, .int .i64 et, .int .i64 ef, .int .i64 er, .slice Ac cd.length cc, .slice Ax ex.length cx, .slice An nd.length cn])
            have x0 := HBX.out.cell 0
            clear ho hbl hcell q hoe i0 i1 i2 i3 i4 i5 i6 i7 i8 hend
            go_wp2_with fail
            refine (pick_c od 5 HI0.out.1 HI0.out.2 (by omega) (by omega) _).mono ?_
            rintro e wx ⟨rfl, hwx⟩
            have HCA := hid (HC1.out.keep ((Fr.refl No wc).alloc (.cells #[.int .i64 od, .int .i64 ofn, .int .i64 oep, .int .i64 otk, .int .i64 ev, .int .i64 eep, .int .i64 et, .int .i64 ef, .int .i64 er, .slice Ac cd.length cc, .slice Ax ex.length cx, .slice An nd.length cn] 57)))
            have HFA := hid HCA.out.fr
            rw [← hwx] at HBX HCA HFA
            clear k0 k1 k2 k3 k4 k5 k6 k7 k8 k9 k10 k11 x0 hwx HC1
            generalize wc.heap.size = xb at HBX ⊢
            generalize wx = wa at HBX HCA HFA ⊢
            have m1 := Int.emod_nonneg od (show (5 : Int) ≠ 0 by omega)
            have m2 := Int.emod_lt_of_pos od (show (0 : Int) < 5 by omega)
            generalize od % 5 = d at m1 m2 ⊢
            rcases (show d = 0 ∨ d = 1 ∨ d = 2 ∨ d = 3 ∨ d = 4 by omega) with rfl | rfl | rfl | rfl | rfl
            · clear m1 m2
              have x4 := HBX.out.cell 4
              have x5 := HBX.out.cell 5
              have x6 := HBX.out.cell 6
              have x7 := HBX.out.cell 7
              have x8 := HBX.out.cell 8
              have x9 := HBX.out.cell 9
              have x10 := HBX.out.cell 10
              have x11 := HBX.out.cell 11
              have HBB := hid (show b < wa.heap.size ∧ xb ≠ b from ⟨HCA.out.c.map.lt, HBX.out.not_mapK HCA.out.c.map⟩)
              by_cases hpt : (belowB fs (Ev.mk ev eep et ef er cd (.slice Ac cd.length cc) ex (.slice Ax ex.length cx) nd (.slice An nd.length cn)) || elder (Ev.mk ev eep et ef er cd (.slice Ac cd.length cc) ex (.slice Ax ex.length cx) nd (.slice An nd.length cn)) ms) = true
              · have HPT := hid hpt
                clear hpt
                go_wp2_with fail
                refine (put_no HCA.out.c (Ev.mk ev eep et ef er cd (.slice Ac cd.length cc) ex (.slice Ax ex.length cx) nd (.slice An nd.length cn)) (HOK.out.keep HFA.out) HPT.out).mono ?_
                rintro en w5 ⟨rfl, f5⟩
                have HC5 := hid (HCA.out.keep f5)
                clear f5 x4 x5 x6 x7 x8 x9 x10 x11
                go_wp2_with fail
                go_roundg (61 - (i + 1))
                case measure => have := HQ.out; omega
                case rel => exact ⟨i + 1, ms, fs, by go_num, by have := HM.out; omega, rfl, Nat.le_succ_of_le HML.out, HC5, HCL, fun h => HFL.out (Nat.lt_succ_iff.1 h)⟩
              · have HPT := hid (show belowB fs (Ev.mk ev eep et ef er cd (.slice Ac cd.length cc) ex (.slice Ax ex.length cx) nd (.slice An nd.length cn)) = false ∧ elder (Ev.mk ev eep et ef er cd (.slice Ac cd.length cc) ex (.slice Ax ex.length cx) nd (.slice An nd.length cn)) ms = false from by
                  have h1 : (belowB fs (Ev.mk ev eep et ef er cd (.slice Ac cd.length cc) ex (.slice Ax ex.length cx) nd (.slice An nd.length cn)) || elder (Ev.mk ev eep et ef er cd (.slice Ac cd.length cc) ex (.slice Ax ex.length cx) nd (.slice An nd.length cn)) ms) = false := by simpa using hpt
                  rwa [Bool.or_eq_false_iff] at h1)
                clear hpt
                go_wp2_with fail
                refine (put_ok HCA.out.c (Ev.mk ev eep et ef er cd (.slice Ac cd.length cc) ex (.slice Ax ex.length cx) nd (.slice An nd.length cn)) (HOK.out.keep HFA.out) HPT.out.1 HPT.out.2).mono ?_
                rintro en w5 ⟨cv5, xv5, nv5, rfl, t5, cp5, f5⟩
                have HC5 := hid (HCA.out.turn1 t5 f5)
                have HCL5 := hid (HCL.out.put (ev, ef) ⟨ev, eep, et, ef, er, cd, cv5, ex, xv5, nd, nv5⟩ HPT.out.1)
                have HML5 := hid (Nat.le_trans (putE_len (ev, ef) ⟨ev, eep, et, ef, er, cd, cv5, ex, xv5, nd, nv5⟩ ms) (Nat.succ_le_succ HML.out))
                have HWP := hid (was_put (ev, ef) ⟨ev, eep, et, ef, er, cd, cv5, ex, xv5, nd, nv5⟩ ms)
                have HBX5 := hid (HBX.out.keep f5 HBB.out.2)
                generalize putE (ev, ef) ⟨ev, eep, et, ef, er, cd, cv5, ex, xv5, nd, nv5⟩ ms = ms5 at HC5 HCL5 HML5 HWP
                clear t5 cp5 f5 x4 x5 x6 x7 x8 x9 x10 x11
                have HWE := hid (show wasE (ev, ef) ms5 = ⟨ev, eep, et, ef, er, cd, cv5, ex, xv5, nd, nv5⟩ by unfold wasE; rw [HWP.out]; rfl)
                have x4 := HBX5.out.cell 4
                have x6 := HBX5.out.cell 6
                have x7 := HBX5.out.cell 7
                have x8 := HBX5.out.cell 8
                by_cases ht : (-9223372036854775808 : Int) < et
                · have ew : IntKind.i64.wrap (et - 1) = et - 1 := by have := HIS.out; rw [IntKind.wrap_i64]; omega
                  go_wp2_with fail
                  refine (get_yes HC5.out.c ev ef (et - 1) (by unfold has; rw [HWP.out, HWE.out]; simp; omega)).mono ?_
                  rintro en w6 ⟨cv6, xv6, nv6, rfl, cp6, f6⟩
                  rw [HWE.out] at cp6 ⊢
                  dsimp only at cp6 ⊢
                  obtain ⟨A6, c6, rfl, hj1, hj2⟩ := cp6.nd.slice
                  obtain ⟨Ad6, cd6, rfl, hj3, hj4⟩ := cp6.cd.slice
                  obtain ⟨ez6, hj5, ⟨Ay6, cy6, rfl, hj6⟩, hj7⟩ := cp6.ex.ex
                  clear hj1 hj2 hj3 hj4 hj5 hj6 hj7
                  have HC6 := hid ((HC5.out.keep f6).keep ((Fr.refl No w6).alloc (.cells #[.int .i64 ef, .int .i64 er, .slice Ad6 cd.length cd6, .slice Ay6 ex.length cy6, .slice A6 nd.length c6] 26)))
                  have HBX6 := (HBX5.out.keep f6 (not_no _)).alloc (.cells #[.int .i64 ef, .int .i64 er, .slice Ad6 cd.length cd6, .slice Ay6 ex.length cy6, .slice A6 nd.length c6] 26)
                  have HBF6 := Blk.new w6 26 #[.int .i64 ef, .int .i64 er, .slice Ad6 cd.length cd6, .slice Ay6 ex.length cy6, .slice A6 nd.length c6]
                  clear cp6 f6 x4 x6 x7 x8 ew
                  have x6 := HBX6.cell 6
                  have x8 := HBX6.cell 8
                  have z1 := HBF6.cell 1
                  clear HBX6 HBF6
                  go_wp2_with fail
                  go_roundg (61 - (i + 1))
                  case measure => have := HQ.out; omega
                  case rel => exact ⟨i + 1, ms5, fs, by go_num, by have := HM.out; omega, rfl, HML5, HC6, HCL5, fun h => HFL.out (Nat.lt_succ_iff.1 h)⟩
                · obtain ⟨tk, htk⟩ : ∃ tk : Int, IntKind.i64.wrap (et - 1) = tk := ⟨_, rfl⟩
                  have htl : ¬ tk < et := by have := HIS.out; rw [← htk, IntKind.wrap_i64]; omega
                  have HTL := hid htl
                  clear htl
                  go_wp2_with fail
                  refine (get_no HC5.out.c ev ef tk (by unfold has; rw [HWP.out, HWE.out]; exact decide_eq_false (by have := HTL.out; show ¬ tk < et; omega))).mono ?_
                  rintro en w6 ⟨rfl, f6⟩
                  have HC6 := hid ((HC5.out.keep f6).keep ((Fr.refl No w6).alloc (.cells #[.int .i64 0, .int .i64 0, .slice none 0 0, .slice none 0 0, .slice none 0 0] 26)))
                  have HBX6 := (HBX5.out.keep f6 (not_no _)).alloc (.cells #[.int .i64 0, .int .i64 0, .slice none 0 0, .slice none 0 0, .slice none 0 0] 26)
                  clear f6 x4 x6 x7 x8 htk
                  have x6 := HBX6.cell 6
                  clear HBX6
                  unfold zeroFast
                  go_wp2_with fail
                  go_roundg (61 - (i + 1))
                  case measure => have := HQ.out; omega
                  case rel => exact ⟨i + 1, ms5, fs, by go_num, by have := HM.out; omega, rfl, HML5, HC6, HCL5, fun h => HFL.out (Nat.lt_succ_iff.1 h)⟩
            · clear m1 m2
              go_wp2_with fail
              go_roundg (61 - (i + 1))
              case measure => have := HQ.out; omega
              case rel => exact ⟨i + 1, ms, fs, by go_num, by have := HM.out; omega, rfl, Nat.le_succ_of_le HML.out, HCA, HCL, fun h => HFL.out (Nat.lt_succ_iff.1 h)⟩
            · clear m1 m2
              have x1 := HBX.out.cell 1
              have x2 := HBX.out.cell 2
              go_wp2_with fail
              refine (revoke_c HCA.out.c ofn oep (by have := HML.out; omega)).mono ?_
              rintro en w5 ⟨rfl, t5, f5⟩
              have HC5 := hid (HCA.out.turn t5 f5)
              clear t5 f5 x1 x2
              go_wp2_with fail
              go_roundg (61 - (i + 1))
              case measure => have := HQ.out; omega
              case rel => exact ⟨i + 1, _, _, by go_num, by have := HM.out; omega, rfl, Nat.le_trans (List.length_filter_le _ _) (Nat.le_succ_of_le HML.out), HC5, Cln.revoked _ _, fun h => (HFL.out (Nat.lt_succ_iff.1 h)).revoke ofn oep⟩
            · clear m1 m2
              have x3 := HBX.out.cell 3
              go_wp2_with fail
              refine (expire_c HCA.out.c otk (by have := HML.out; omega)).mono ?_
              rintro en w5 ⟨rfl, t5, f5⟩
              have HC5 := hid (HCA.out.turn1 t5 f5)
              clear t5 f5 x3
              go_wp2_with fail
              go_roundg (61 - (i + 1))
              case measure => have := HQ.out; omega
              case rel => exact ⟨i + 1, _, fs, by go_num, by have := HM.out; omega, rfl, Nat.le_trans (List.length_filter_le _ _) (Nat.le_succ_of_le HML.out), HC5, HCL.out.filter _, fun h => HFL.out (Nat.lt_succ_iff.1 h)⟩
            · clear m1 m2
              go_wp2_with fail
              go_roundg (61 - (i + 1))
              case measure => have := HQ.out; omega
              case rel => exact ⟨i + 1, ms, fs, by go_num, by have := HM.out; omega, rfl, Nat.le_succ_of_le HML.out, HCA, HCL, fun h => HFL.out (Nat.lt_succ_iff.1 h)⟩
end Go.Proofs.Ytfmoagpfgkokcaa
