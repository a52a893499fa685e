import Derived.Test.YtfbhcapcnkcfdaaLogG
/-! LogEnded: behind an error of the disk's a log takes no more; on a full disk it goes on. -/
namespace Go.Proofs.Ytfbhcapcnkcfdaa
open Go.RowKit
set_option linter.unusedVariables false
set_option linter.unusedSimpArgs false

theorem addL_of_zero (most : Int) (rs : List (List UInt8)) (r : List UInt8) (hr : Good r) (hm : ((recsB rs).length : Int) + (8 + r.length) ≤ most) :
    addL (diskOf most rs 0) (logOf rs) r = (⟨most, recsB rs, (recsB rs).length, -1, true⟩, ⟨rs.length, (recsB rs).length, true⟩, 15) := addL_zero (diskOf most rs 0) (logOf rs) r hr rfl rfl hm rfl
theorem addL_of_one (most : Int) (rs : List (List UInt8)) (r : List UInt8) (hr : Good r) (hm : ((recsB rs).length : Int) + (8 + r.length) ≤ most) :
    addL (diskOf most rs 1) (logOf rs) r = (⟨most, recsB rs ++ recB r, (recsB rs).length, -1, true⟩, ⟨rs.length, (recsB rs).length, true⟩, 15) := addL_one (diskOf most rs 1) (logOf rs) r hr rfl rfl hm rfl
theorem addL_of_full (most : Int) (rs : List (List UInt8)) (arm : Int) (r : List UInt8) (hr : Good r) (hm : most < ((recsB rs).length : Int) + (8 + r.length)) :
    addL (diskOf most rs arm) (logOf rs) r = (diskOf most rs arm, logOf rs, 5) := addL_full (diskOf most rs arm) (logOf rs) r hr rfl rfl hm

set_option maxRecDepth 100000 in
set_option maxHeartbeats 8000000 in
theorem logEnded_c (y : Value) (ps : List (Value × List UInt8)) (most arm : Int) (o0 : 0 ≤ most) (o1 : most ≤ 65535) (t0 : 0 ≤ arm) (t1 : arm ≤ 65535) (w : World) (hy : RdL w y ps) :
    Calls Try.prog 7 #[y, .int .u16 most, .int .u16 arm] w (RetT w) := by
  have kc := run_convert_const (P := Try.prog) 22 5 Try.underlying22 Try.underlying5
  obtain ⟨A, c, rfl, hc⟩ := hy.1.slice_
  have HY := hid hy
  have HYS := hid (show RdLs w (.slice A ps.length c) ps from ⟨hy.1, fun p hp => (hy.2 p hp).1⟩)
  clear hy
  obtain ⟨M, hM, hM2⟩ : ∃ M : Nat, most % 501 = M ∧ M ≤ 500 := ⟨(most % 501).toNat, by omega, by omega⟩
  obtain ⟨N, hN, hN2⟩ : ∃ N : Nat, arm % 60 = N ∧ N ≤ 59 := ⟨(arm % 60).toNat, by omega, by omega⟩
  have M0 : (0 : Int) ≤ M := by omega
  have HARM := hid (show armD (diskOf M [] (-1)) (N : Int) = diskOf M [] N by unfold armD diskOf; rw [if_neg nf]; congr 1; omega)
  go_enter Try.func7, Try.ntmps7
  go_wp2_with fail
  refine (new_c M (by omega) (by omega) _).mono ?_
  rintro e w1 ⟨g, v1, rfl, I, F, hgn, hvn⟩
  have S1 := hid (St.new I F hgn hvn)
  clear I F hgn hvn
  go_wp2_with fail
  refine (open_ok S1.out.disk rfl (openD_whole _ [] rfl rfl (by simp))).mono ?_
  intro e w2 hr
  obtain ⟨gl, vo, ps0, v2, rfl, S', T', hps, F', G', hgl⟩ := SL.opened S1.out hr
  have S2 := hid (show SL w w2 g v2 (diskOf M [] (-1)) gl (logOf []) from S')
  obtain ⟨Ao, co, rfl, hco⟩ := T'.own.rds.1.slice_
  clear S' T' hps F' G' hr S1
  go_wp2_with fail
  refine (arm_c S2.out.st.disk (N : Int) (by omega) _ HARM.out).mono ?_
  rintro e w3 ⟨v3, rfl, I, F, G⟩
  have S3 := hid (S2.out.disk I F G)
  clear I F G S2
  go_wp2_with fail
  go_loopg [12, 13, 14] 30 (fun q v12 v13 v14 w' => ∃ (i u : Nat) (v : Value) (rs : List (List UInt8)) (a : Nat), v12 = .int .i64 rs.length ∧ v13 = .int .i64 u ∧ v14 = .int .i64 i ∧ i ≤ 30 ∧ u ≤ M ∧ rs.length ≤ i ∧ a ≤ 59 ∧ Hid (q = 30 - i) ∧ Hid (u = (recsB rs).length) ∧ Hid (SL w w' g v (diskOf M rs a) gl (logOf rs)))
  case atStart => exact ⟨0, 0, v3, [], N, rfl, rfl, rfl, by omega, by omega, by simp, hN2, rfl, rfl, S3⟩
  case round =>
    clear S3 HARM hN hN2
    obtain ⟨i, u, v, rs, a, rfl, rfl, rfl, hi, hu, hrl, ha, HQ, HU, S⟩ := hrel
    have HLN := hid (show (logOf rs).n = (rs.length : Int) from rfl)
    have HLB := hid (show (logOf rs).bytes = (u : Int) by rw [HU.out]; rfl)
    by_cases d1 : i < ps.length ∧ i < 30
    · obtain ⟨d1, d2⟩ := d1
      have d3 : (i : Int) < ps.length := by omega
      have d4 : (i : Int) < 30 := by omega
      obtain ⟨b, off, A1, c1, xs, rfl, hz, k0, hx⟩ := (HYS.out.too S.out.st.fr).at_ d1
      have HZ := hid hz
      have HX := hid hx
      have i0 : (0 : Int) ≤ i := by omega
      clear hz hx
      by_cases e1 : xs.length = 0
      · have e2 : ((xs.length : Int) == 0) = true := by simp; exact List.eq_nil_of_length_eq_zero e1
        clear e1
        go_wp2_with fail
        go_roundg (30 - (i + 1))
        case measure => have := HQ.out; omega
        case rel => exact ⟨i + 1, u, v, rs, a, rfl, rfl, by go_num, by omega, hu, by omega, ha, rfl, HU, S⟩
      · have e2 : ((xs.length : Int) == 0) = false := by rw [beq_eq_false_iff_ne]; omega
        by_cases e3 : 100 < xs.length
        · have e4 : (100 : Int) < xs.length := by omega
          clear e1 e3
          go_wp2_with fail
          go_roundg (30 - (i + 1))
          case measure => have := HQ.out; omega
          case rel => exact ⟨i + 1, u, v, rs, a, rfl, rfl, by go_num, by omega, hu, by omega, ha, rfl, HU, S⟩
        · have e4 : ¬ (100 : Int) < xs.length := by omega
          have hgood : Good xs := ⟨by omega, by omega⟩
          have HGOOD := hid hgood
          have HB1 := hid (show (0 : Int) ≤ (logOf rs).n ∧ (logOf rs).n ≤ 4611686018427387904 ∧ (0 : Int) ≤ (logOf rs).bytes ∧ (logOf rs).bytes ≤ 4611686018427387904 by rw [HLN.out, HLB.out]; omega)
          have hxs : 1 ≤ xs.length := hgood.1
          clear hgood
          by_cases hf : M < u + 8 + xs.length
          · have hadd := addL_of_full M rs a xs HGOOD.out (by rw [← HU.out]; omega)
            have HADD := hid hadd
            have hf2 : (M : Int) < (u : Int) + 8 + xs.length := by omega
            clear hadd e1 e3
            go_wp2_with fail
            refine (add_c S.out.st.disk S.out.log _ xs HX.out HB1.out.1 HB1.out.2.1 HB1.out.2.2.1 HB1.out.2.2.2 _ HADD.out).mono ?_
            intro e w4 hr
            obtain ⟨v4, rfl, S', F4, G4⟩ := S.out.add hr
            have S4 := hid S'
            clear S' F4 G4 hr k0
            go_wp2_with fail
            go_roundg (30 - (i + 1))
            case measure => have := HQ.out; omega
            case rel => exact ⟨i + 1, u, v4, rs, a, rfl, rfl, by go_num, by omega, hu, by omega, ha, rfl, HU, S4⟩
          · have hf2 : ¬ (M : Int) < (u : Int) + 8 + xs.length := by omega
            have hroom : ((recsB rs).length : Int) + (8 + xs.length) ≤ (M : Int) := by rw [← HU.out]; omega
            by_cases ha2 : 2 ≤ a
            · have hadd := addL_of M rs a xs HGOOD.out hroom (by omega) (by omega) (by omega)
              rw [show max ((a : Int) - 2) (-1) = ((a - 2 : Nat) : Int) by omega] at hadd
              have HADD := hid hadd
              clear hadd e1 e3 hroom
              go_wp2_with fail
              refine (add_c S.out.st.disk S.out.log _ xs HX.out HB1.out.1 HB1.out.2.1 HB1.out.2.2.1 HB1.out.2.2.2 _ HADD.out).mono ?_
              intro e w4 hr
              obtain ⟨v4, rfl, S', F4, G4⟩ := S.out.add hr
              have S4 := hid S'
              have k04 : w4.cell? ⟨b, off + i, none⟩ = some (.slice A1 xs.length c1) := by
                obtain ⟨b', off', A1', c1', xs', hv, hz', k0', _⟩ := (HYS.out.too S'.st.fr).at_ d1
                injection hv with hv
                injection hv with hv1 hv2
                subst hv1 hv2
                rw [HZ.out] at hz'
                injection hz' with hz'
                injection hz' with hz1 hz2
                subst hz2
                rw [hz1]
                exact k0'
              clear S' F4 G4 hr k0
              have k0 := k04
              clear k04
              have w1' : IntKind.i64.wrap ((rs.length : Int) + 1) = (rs.length : Int) + 1 := by rw [IntKind.wrap_i64]; omega
              have w2' : IntKind.i64.wrap ((u : Int) + 8) = (u : Int) + 8 := by rw [IntKind.wrap_i64]; omega
              have w3' : IntKind.i64.wrap ((u : Int) + 8 + xs.length) = (u : Int) + 8 + xs.length := by rw [IntKind.wrap_i64]; omega
              go_wp2_with fail
              go_quiet (fail)
              have S5 := hid (S4.out.keep ((Fr.refl No w4).drewN nq))
              clear w1' w2' w3' S4
              go_wp2_with fail
              go_roundg (30 - (i + 1))
              case measure => have := HQ.out; omega
              case rel => exact ⟨i + 1, u + 8 + xs.length, v4, rs ++ [xs], a - 2, by simp, by go_num, by go_num, by omega, by omega, by simp; omega, by omega, rfl, by unfold Hid; rw [recsB_snoc_len, ← HU.out]; omega, S5⟩
            · obtain ⟨dd, hdd⟩ : ∃ dd : DSt, addL (diskOf M rs a) (logOf rs) xs = (dd, ⟨rs.length, u, true⟩, 15) := by
                have hu2 : ((recsB rs).length : Int) = u := by rw [HU.out]
                rcases (show a = 0 ∨ a = 1 by omega) with rfl | rfl
                · rw [show ((0 : Nat) : Int) = 0 from rfl, addL_of_zero M rs xs HGOOD.out hroom, hu2]; exact ⟨_, rfl⟩
                · rw [show ((1 : Nat) : Int) = 1 from rfl, addL_of_one M rs xs HGOOD.out hroom, hu2]; exact ⟨_, rfl⟩
              have HADD := hid hdd
              obtain ⟨dc, hdc⟩ : ∃ dc, crashD dd 0 = dc := ⟨_, rfl⟩
              have HDC := hid hdc
              have HO1 := hid (addL_over dc ⟨rs.length, u, true⟩ [120] (good1 120) rfl)
              have HO2 := hid (addL_over dc ⟨rs.length, u, true⟩ xs HGOOD.out rfl)
              have HB2 := hid (show (0 : Int) ≤ (rs.length : Int) ∧ (rs.length : Int) ≤ 4611686018427387904 ∧ (0 : Int) ≤ (u : Int) ∧ (u : Int) ≤ 4611686018427387904 by omega)
              clear hdd hdc e1 e3 hroom ha2
              go_wp2_with fail
              refine (add_c S.out.st.disk S.out.log _ xs HX.out HB1.out.1 HB1.out.2.1 HB1.out.2.2.1 HB1.out.2.2.2 _ HADD.out).mono ?_
              intro e w4 hr
              obtain ⟨v4, rfl, S', F4, G4⟩ := S.out.add hr
              have S4 := hid S'
              clear S' F4 G4 hr k0
              go_wp2_with fail
              refine (crash_c S4.out.st.disk 0 _ HDC.out).mono ?_
              rintro e w5 ⟨v5, rfl, I, F, G⟩
              have S5 := hid (S4.out.disk I F G)
              clear I F G S4
              go_wp2_with fail
              refine (add_c (S5.out.st.disk.keep_no ((Fr.refl No _).alloc _)) (Blk.keep S5.out.log ((Fr.refl No _).alloc _) (not_no _)) _ [120] (RdB.lit_ _ _ _ _ _ rfl rfl _ (by first | rfl | simp)) HB2.out.1 HB2.out.2.1 HB2.out.2.2.1 HB2.out.2.2.2 _ HO1.out).mono ?_
              intro e w6 hr
              obtain ⟨v6, rfl, S', F6, G6⟩ := (S5.out.keep ((Fr.refl No _).alloc _)).add hr
              have S6 := hid S'
              have k06 : w6.cell? ⟨b, off + i, none⟩ = some (.slice A1 xs.length c1) := by
                obtain ⟨b', off', A1', c1', xs', hv, hz', k0', _⟩ := (HYS.out.too S'.st.fr).at_ d1
                injection hv with hv
                injection hv with hv1 hv2
                subst hv1 hv2
                rw [HZ.out] at hz'
                injection hz' with hz'
                injection hz' with hz1 hz2
                subst hz2
                rw [hz1]
                exact k0'
              clear S' F6 G6 hr S5
              go_wp2_with fail
              refine (add_c S6.out.st.disk S6.out.log _ xs ((HYS.out.2 _ (List.mem_of_getElem? HZ.out)).too S6.out.st.fr) HB2.out.1 HB2.out.2.1 HB2.out.2.2.1 HB2.out.2.2.2 _ HO2.out).mono ?_
              intro e w7 hr
              obtain ⟨v7, rfl, S', F7, G7⟩ := S6.out.add hr
              have S7 := hid S'
              clear S' F7 G7 hr S6 k06
              go_wp2_with fail
              refine (llen_c S7.out.log).mono ?_
              rintro e wx ⟨rfl, rfl⟩
              go_wp2_with fail
              refine (lbytes_c S7.out.log).mono ?_
              rintro e wx ⟨rfl, rfl⟩
              go_wp2_with fail
              refine (awake_c _).mono ?_
              rintro e w10 ⟨rfl, B⟩
              have F10 := hid (S7.out.st.fr.fresh_no B)
              clear B
              go_wp2_with fail
              go_ret
              exact ⟨rfl, F10.out⟩
    · have hend : ((i : Int) < ps.length ∧ ¬ (i : Int) < 30) ∨ ¬ (i : Int) < ps.length := by omega
      clear d1
      rcases hend with ⟨he1, he2⟩ | he1
      all_goals
        go_wp2_with fail
        refine (llen_c S.out.log).mono ?_
        rintro e wx ⟨rfl, rfl⟩
        rw [HLN.out]
        go_wp2_with fail
        refine (lbytes_c S.out.log).mono ?_
        rintro e wx ⟨rfl, rfl⟩
        rw [HLB.out]
        go_wp2_with fail
        refine (awake_c _).mono ?_
        rintro e w10 ⟨rfl, B⟩
        have F10 := hid (S.out.st.fr.fresh_no B)
        clear B
        go_wp2_with fail
        go_ret
        exact ⟨rfl, F10.out⟩
end Go.Proofs.Ytfbhcapcnkcfdaa
