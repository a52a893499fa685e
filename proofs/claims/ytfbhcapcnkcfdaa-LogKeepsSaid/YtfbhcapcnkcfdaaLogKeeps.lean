import Derived.Test.YtfbhcapcnkcfdaaLogH
import Derived.Deep.DeepCutAuto
import Derived.Deep.CutBlock
/-! LogKeeps: behind any crash Open tells all records whose Add was OK, in order, and at most one more. -/
namespace Go.Proofs.Ytfbhcapcnkcfdaa
open Go.RowKit
set_option linter.unusedVariables false
set_option linter.unusedSimpArgs false

theorem recs_len (rs : List (List UInt8)) (h : ∀ r ∈ rs, 1 ≤ r.length ∧ r.length ≤ 100) : (recsB rs).length ≤ 108 * rs.length := by
  induction rs with
  | nil => simp [recsB]
  | cons r rs ih =>
    have h1 := ih (fun x hx => h x (by simp [hx]))
    have h2 := h r (by simp)
    rw [recsB_cons, List.length_append, recB_length, List.length_cons]
    omega
set_option maxRecDepth 100000 in
set_option maxHeartbeats 8000000 in
theorem logKeeps_c (y : Value) (ps : List (Value × List UInt8)) (y2 : Value) (zs : List Int) (w : World) (hy : RdL w y ps) (h2 : RdI w y2 zs) :
    Calls Try.prog 9 #[y, y2] w (RetT w) := by
  obtain ⟨A, c, rfl, hc⟩ := hy.1.slice_
  obtain ⟨A2, c2, rfl, hc2⟩ := h2.1.slice_
  have HY := hid hy
  have HYS := hid (show RdLs w (.slice A ps.length c) ps from ⟨hy.1, fun p hp => (hy.2 p hp).1⟩)
  have HZS := hid h2
  clear hy h2
  have kn := fun (w : World) (a : Option Addr) (n c : Nat) => Lib.run_eql_slice_nil (P := Try.prog) w 22 5 a n c 0 0 Try.underlying22
  go_enter Try.func9, Try.ntmps9
  go_wp2_with fail
  refine (new_c 1048576 (by omega) (by omega) _).mono ?_
  rintro e w1 ⟨g, v1, rfl, I, F, hgn, hvn⟩
  have S1 := hid (St.new I F hgn hvn)
  clear I F hgn hvn
  go_wp2_with fail
  refine (open_ok S1.out.disk rfl (openD_whole _ [] rfl rfl (by simp))).mono ?_
  intro e w2 hr
  obtain ⟨gl0, vo, ps0, v2, rfl, S', T', hps, F', G', hgl⟩ := SL.opened S1.out hr
  have S2 := hid (show SL w w2 g v2 (diskOf 1048576 [] (-1)) gl0 (logOf []) from S')
  obtain ⟨Ao, co, rfl, hco⟩ := T'.own.rds.1.slice_
  clear S' T' hps F' G' hr S1
  go_wp2_with fail
  go_loopg [7, 10, 11, 12] 30 (fun q v7 v10 v11 v12 w' => ∃ (i : Nat) (v : Value) (gl : Nat) (a : Int) (qs : List (Value × List UInt8)) (rs : List (List UInt8)), v7 = .pointer (some ⟨gl, 0, none⟩) ∧ v11 = .slice none 0 0 ∧ v12 = .int .i64 i ∧ i ≤ 30 ∧ -1 ≤ a ∧ rs.length ≤ i ∧ Hid (q = 30 - i) ∧ Hid (qs.map (·.2) = rs) ∧ Hid (∀ r ∈ rs, 1 ≤ r.length ∧ r.length ≤ 100) ∧ Hid (SL w w' g v (diskOf 1048576 rs a) gl (logOf rs)) ∧ Hid (Sure w w' v v10 qs))
  case atStart => exact ⟨0, v2, gl0, -1, [], [], rfl, rfl, rfl, by omega, by omega, by simp, rfl, rfl, by simp [Hid], S2, ⟨Own.nil _ _ _, fun k hk => absurd hk Of_none, by simp⟩⟩
  case round =>
    clear S2
    obtain ⟨i, v, gl, a, qs, rs, rfl, rfl, rfl, hi, ha, hfew, HQ, HQS, HGD, S, SU⟩ := hrel
    obtain ⟨Aq, cq, rfl, hcq, hcqm⟩ := SU.out.row.slice
    by_cases d0 : i < ps.length ∧ i < 30 ∧ i < zs.length
    · obtain ⟨d1, d2, d5⟩ := d0
      have d3 : (i : Int) < ps.length := by omega
      have d4 : (i : Int) < 30 := by omega
      have d6 : (i : Int) < zs.length := by omega
      obtain ⟨b, off, A1, c1, xs, rfl, hz, k0, hx⟩ := (HYS.out.too S.out.st.fr).at_ d1
      obtain ⟨b2, off2, zz, rfl, hzz, kz, z1, z2⟩ := (HZS.out.keep S.out.st.fr).at_ d5
      have HZ := hid hz
      have HIN := hid (HY.out.2 _ (List.mem_of_getElem? hz))
      have HXI := hid (HYS.out.2 _ (List.mem_of_getElem? hz))
      replace HXI : Hid (RdB w (.slice A1 xs.length c1) xs) := HXI
      have hql : qs.length ≤ 30 := by have := congrArg List.length HQS.out; simp at this; omega
      clear hz hx hzz
      by_cases e1 : xs.length = 0
      · have e2 : ((xs.length : Int) == 0) = true := by simp; exact List.eq_nil_of_length_eq_zero e1
        clear e1
        go_wp2_with fail
        go_roundg (30 - (i + 1))
        case measure => have := HQ.out; omega
        case rel => exact ⟨i + 1, v, gl, a, qs, rs, rfl, rfl, by go_num, by omega, ha, by omega, rfl, HQS, HGD, S, SU⟩
      · have e2 : ((xs.length : Int) == 0) = false := by rw [beq_eq_false_iff_ne]; omega
        by_cases e3 : 100 < xs.length
        · have e4 : (100 : Int) < xs.length := by omega
          clear e1 e3
          go_wp2_with fail
          go_roundg (30 - (i + 1))
          case measure => have := HQ.out; omega
          case rel => exact ⟨i + 1, v, gl, a, qs, rs, rfl, rfl, by go_num, by omega, ha, by omega, rfl, HQS, HGD, S, SU⟩
        · have e4 : ¬ (100 : Int) < xs.length := by omega
          have HGX := hid (show Good xs from ⟨by omega, by omega⟩)
          have hxl : 1 ≤ xs.length ∧ xs.length ≤ 100 := by omega
          have HG := hid (show ∀ r ∈ rs, Good r from fun r hr => ⟨(HGD.out r hr).1, by have := (HGD.out r hr).2; omega⟩)
          have HGD1 := hid (show ∀ r ∈ rs ++ [xs], 1 ≤ r.length ∧ r.length ≤ 100 from fun r hr => by
            rcases List.mem_append.1 hr with hr | hr
            · exact HGD.out r hr
            · rw [List.mem_singleton.1 hr]; exact hxl)
          have HLEN := hid (show (recsB rs).length ≤ 108 * rs.length ∧ rs.length ≤ 30 from ⟨recs_len rs HGD.out, by omega⟩)
          clear e1 e3
          go_wp2_with fail
          refine (pick_c zz 1000003 z1 z2 (by omega) (by omega) _).mono ?_
          rintro e wx ⟨rfl, rfl⟩
          have m0 := Int.emod_nonneg zz (show (1000003 : Int) ≠ 0 by omega)
          have m1 := Int.emod_lt_of_pos zz (show (0 : Int) < 1000003 by omega)
          obtain ⟨t, ht⟩ := Int.eq_ofNat_of_zero_le m0
          rw [ht] at m1 ⊢
          obtain ⟨x3, hx3⟩ : ∃ x, (t : Int).tmod 3 = x := ⟨_, rfl⟩
          obtain ⟨x4, hx4⟩ : ∃ x, (t : Int).tmod 4 = x := ⟨_, rfl⟩
          have T3 := hid hx3
          have T4 := hid hx4
          clear hx3 hx4 m0 m1 ht z1 z2 kz
          have t3 := T3.out
          go_upto_if 71 with fail
          go_cut [13] (fun s13 wq => s13 = .int .i64 t ∧ ∃ v3 a2, -1 ≤ a2 ∧ Hid (SL w wq g v3 (diskOf 1048576 rs a2) gl (logOf rs)) ∧ Hid (Sure w wq v3 (.slice Aq qs.length cq) qs))
          case first =>
            by_cases c3 : x3 = 0
            · have b3 := b_true c3
              clear c3
              go_wp2_with fail
              refine (arm_c S.out.st.disk _ (Int.le_trans (Int.le_of_lt (Int.tmod_lt_of_pos _ (by decide))) (show (3 : Int) ≤ 9223372036854775807 by decide)) _ rfl).mono ?_
              rintro e w2 ⟨v2, rfl, I, F, G⟩
              have SX := hid (S.out.disk I F G)
              have SUX := hid (SU.out.disk S.out.st.disk F G)
              have KX := hid (show ∀ x, armD (diskOf 1048576 rs a) x = diskOf 1048576 rs (max x 0) from fun x => by unfold armD diskOf; rw [if_neg nf])
              rw [KX.out] at SX
              clear I F G S SU
              go_wp2_with fail
              go_meet
              exact ⟨rfl, _, _, (by have := Int.le_max_right ((wrap64 ((t : Int) / 3)).tmod 3) 0; exact Int.le_trans (by decide) this), SX, SUX⟩
            · have b3 := b_false c3
              clear c3
              go_wp2_with fail
              go_meet
              exact ⟨rfl, _, _, ha, S, SU⟩
          case rest =>
            clear t3
            clear S SU k0
            obtain ⟨rfl, v3, a2, ha3, S3, SU3⟩ := hcut
            have k0 : wc.cell? ⟨b, off + i, none⟩ = some (.slice A1 xs.length c1) := by
              have S' := S3.out
              obtain ⟨b', off', A1', c1', xs', hv, hz', k0', _⟩ := (HYS.out.too S'.st.fr).at_ d1
              injection hv with hv
              injection hv with hv1 hv2
              subst hv1 hv2
              rw [HZ.out] at hz'
              injection hz' with hz'
              injection hz' with hz1 hz2
              subst hz2
              rw [hz1]
              exact k0'
            have hroom : ((recsB rs).length : Int) + (8 + xs.length) ≤ 1048576 := by have := HLEN.out; omega
            have HB1 := hid (show (0 : Int) ≤ (logOf rs).n ∧ (logOf rs).n ≤ 4611686018427387904 ∧ (0 : Int) ≤ (logOf rs).bytes ∧ (logOf rs).bytes ≤ 4611686018427387904 by have := HLEN.out; unfold logOf; dsimp only; omega)
            by_cases ha0 : a2 = 0
            · subst ha0
              have hadd := addL_of_zero 1048576 rs xs HGX.out hroom
              have HADD := hid hadd
              clear hadd hroom
              go_wp2_with fail
              refine (add_c S3.out.st.disk S3.out.log _ xs (HXI.out.too S3.out.st.fr) HB1.out.1 HB1.out.2.1 HB1.out.2.2.1 HB1.out.2.2.2 _ HADD.out).mono ?_
              intro e w4 hr
              obtain ⟨v4, rfl, S', F4, G4⟩ := S3.out.add hr
              have S4 := hid S'
              have SU4 := hid (SU3.out.added S3.out.st.disk S3.out.log F4 G4)
              have k04 : w4.cell? ⟨b, off + i, none⟩ = some (.slice A1 xs.length c1) := by
                obtain ⟨b', off', A1', c1', xs', hv, hz', k0', _⟩ := (HYS.out.too S'.st.fr).at_ d1
                injection hv with hv
                injection hv with hv1 hv2
                subst hv1 hv2
                rw [HZ.out] at hz'
                injection hz' with hz'
                injection hz' with hz1 hz2
                subst hz2
                rw [hz1]
                exact k0'
              clear S' F4 G4 hr k0 S3 SU3
              have k0 := k04
              clear k04
              go_wp2_with fail
              refine (down_is S4.out.st.disk true rfl).mono ?_
              rintro e wx ⟨rfl, rfl⟩
              clear k0
              go_wp2_with fail
              have KL := hid (show ∀ n dc, crashD ⟨1048576, recsB rs, (recsB rs).length, -1, true⟩ n = dc → ∃ rs2, openD dc = (diskOf 1048576 rs2 (-1), rs2, 0) ∧ dc.down = false ∧ rs2 = rs from fun n dc h => ⟨rs, (kept_all 1048576 rs HG.out (-1) true n dc h).1, (kept_all 1048576 rs HG.out (-1) true n dc h).2, rfl⟩)
              refine (crash_c S4.out.st.disk _ _ rfl).mono ?_
              rintro e w5 ⟨v5, rfl, I, F, G⟩
              generalize hdc : crashD _ _ = dc at I
              obtain ⟨rs2, hop, hdn, hrs2⟩ := KL.out _ _ hdc
              have S5 := hid (S4.out.disk I F G)
              have SU5 := hid (SU4.out.disk S4.out.st.disk F G)
              have HOP := hid hop
              have HDN := hid hdn
              clear I F G hdc hop hdn S4 SU4
              go_wp2_with fail
              refine (open_ok S5.out.st.disk HDN.out HOP.out).mono ?_
              intro e w6 hr
              obtain ⟨gm, vo, os, v6, rfl, M', T', hos, F', G', hgm⟩ := SL.opened S5.out.st hr
              have M6 := hid M'
              have T6 := hid T'
              have SU6 := hid (SU5.out.disk S5.out.st.disk F' G')
              have HNS := hid (show w.heap.size ≤ w5.heap.size from S5.out.st.fr.size)
              obtain ⟨Am, cm, rfl, hcm⟩ := T'.own.rds.1.slice_
              have ZB := hid (show (((recsB rs2).length : Nat) : Int) = ((diskOf 1048576 rs2 (-1)).bytes.length : Int) from rfl)
              have ZS := hid (show ((diskOf 1048576 rs2 (-1)).synced : Int) = ((diskOf 1048576 rs2 (-1)).bytes.length : Int) from rfl)
              have hrs3 := hrs2.symm
              subst hrs3
              have hqb : qs.length ≤ 31 := by have h2 := congrArg List.length HQS.out; simp at h2; omega
              have hol : os.length = qs.length + 0 := by have h1 := congrArg List.length hos; have h2 := congrArg List.length HQS.out; simp at h1 h2 ⊢; omega
              have HOS := hid hos
              have HOLX := hid hol
              have HOLL := hid (show os.length ≤ 4611686018427387904 ∧ qs.length ≤ os.length by omega)
              have l1 : ¬ (os.length : Int) < (qs.length : Int) := by omega
              have l2 : ¬ (qs.length : Int) + 1 < (os.length : Int) := by omega
              have l3 : (qs.length : Int) ≤ cm := by omega
              have l4 : (0 : Int) ≤ (qs.length : Int) := by omega
              have ZN := hid (show ((List.length (rs) : Nat) : Int) = (os.length : Int) by rw [← hos]; simp)
              have EQ := hid (show (os.take qs.length).map (·.2) = qs.map (·.2) by rw [List.map_take, hos, HQS.out, List.take_of_length_le (by have h2 := congrArg List.length HQS.out; simp at h2 ⊢; omega)])
              have OT := hid (T6.out.own.rds.take (m := qs.length) (by omega) (by omega))
              clear hos hol M' T' F' G' hr S5 SU5 HOP
              go_wp2_with fail
              refine (sameL_yes _ _ (os.take qs.length) qs _ OT.out (SU6.out.rds M6.out.st.fr) EQ.out (by rw [List.length_take]; have := HOLL.out; omega)).mono ?_
              rintro e w7 ⟨rfl, n7, rfl⟩
              have M7 := hid (M6.out.keep ((Fr.refl No w6).drewN n7))
              have T7 := hid (T6.out.keep ((Fr.refl No w6).drewN n7))
              have SU7 := hid (SU6.out.keep ((Fr.refl No w6).drewN n7))
              clear M6 T6 SU6 OT
              generalize w6.drewN n7 = w7 at M7 T7 SU7 ⊢
              go_wp2_with fail
              refine (llen_c M7.out.log).mono ?_
              rintro e wx ⟨rfl, rfl⟩
              try dsimp only
              rw [ZN.out]
              go_wp2_with fail
              refine (lbytes_c M7.out.log).mono ?_
              rintro e wx ⟨rfl, rfl⟩
              try dsimp only
              rw [ZB.out]
              go_wp2_with fail
              refine (size_c M7.out.st.disk).mono ?_
              rintro e wx ⟨rfl, rfl⟩
              go_wp2_with fail
              refine (synced_c M7.out.st.disk).mono ?_
              rintro e wx ⟨rfl, rfl⟩
              rw [ZS.out]
              go_wp2_with fail
              refine (size_c M7.out.st.disk).mono ?_
              rintro e wx ⟨rfl, rfl⟩
              have l5 : ¬ (qs.length : Int) < (os.length : Int) := by have := HOLX.out; omega
              go_wp2_with fail
              go_roundg (30 - (i + 1))
              case measure => have := HQ.out; omega
              case rel => exact ⟨i + 1, v6, gm, -1, os, _, rfl, rfl, by go_num, by omega, by omega, by omega, rfl, HOS.out, HGD, by have h := M7; exact h, Sure.told T7.out HNS.out⟩
            · by_cases ha1 : a2 = 1
              · subst ha1
                have hadd := addL_of_one 1048576 rs xs HGX.out hroom
                have HADD := hid hadd
                clear hadd hroom
                go_wp2_with fail
                refine (add_c S3.out.st.disk S3.out.log _ xs (HXI.out.too S3.out.st.fr) HB1.out.1 HB1.out.2.1 HB1.out.2.2.1 HB1.out.2.2.2 _ HADD.out).mono ?_
                intro e w4 hr
                obtain ⟨v4, rfl, S', F4, G4⟩ := S3.out.add hr
                have S4 := hid S'
                have SU4 := hid (SU3.out.added S3.out.st.disk S3.out.log F4 G4)
                have k04 : w4.cell? ⟨b, off + i, none⟩ = some (.slice A1 xs.length c1) := by
                  obtain ⟨b', off', A1', c1', xs', hv, hz', k0', _⟩ := (HYS.out.too S'.st.fr).at_ d1
                  injection hv with hv
                  injection hv with hv1 hv2
                  subst hv1 hv2
                  rw [HZ.out] at hz'
                  injection hz' with hz'
                  injection hz' with hz1 hz2
                  subst hz2
                  rw [hz1]
                  exact k0'
                clear S' F4 G4 hr k0 S3 SU3
                have k0 := k04
                clear k04
                go_wp2_with fail
                refine (down_is S4.out.st.disk true rfl).mono ?_
                rintro e wx ⟨rfl, rfl⟩
                clear k0
                go_wp2_with fail
                have KL := hid (show ∀ n dc, crashD ⟨1048576, recsB rs ++ recB xs, (recsB rs).length, -1, true⟩ n = dc → ∃ rs2, openD dc = (diskOf 1048576 rs2 (-1), rs2, 0) ∧ dc.down = false ∧ (rs2 = rs ∨ rs2 = rs ++ [xs]) from fun n dc h => kept_one 1048576 rs xs HG.out HGX.out (-1) true n dc h)
                refine (crash_c S4.out.st.disk _ _ rfl).mono ?_
                rintro e w5 ⟨v5, rfl, I, F, G⟩
                generalize hdc : crashD _ _ = dc at I
                obtain ⟨rs2, hop, hdn, hrs2⟩ := KL.out _ _ hdc
                have S5 := hid (S4.out.disk I F G)
                have SU5 := hid (SU4.out.disk S4.out.st.disk F G)
                have HOP := hid hop
                have HDN := hid hdn
                clear I F G hdc hop hdn S4 SU4
                go_wp2_with fail
                refine (open_ok S5.out.st.disk HDN.out HOP.out).mono ?_
                intro e w6 hr
                obtain ⟨gm, vo, os, v6, rfl, M', T', hos, F', G', hgm⟩ := SL.opened S5.out.st hr
                have M6 := hid M'
                have T6 := hid T'
                have SU6 := hid (SU5.out.disk S5.out.st.disk F' G')
                have HNS := hid (show w.heap.size ≤ w5.heap.size from S5.out.st.fr.size)
                obtain ⟨Am, cm, rfl, hcm⟩ := T'.own.rds.1.slice_
                have ZB := hid (show (((recsB rs2).length : Nat) : Int) = ((diskOf 1048576 rs2 (-1)).bytes.length : Int) from rfl)
                have ZS := hid (show ((diskOf 1048576 rs2 (-1)).synced : Int) = ((diskOf 1048576 rs2 (-1)).bytes.length : Int) from rfl)
                rcases hrs2 with hrs3 | hrs3
                · replace hrs3 := hrs3.symm
                  subst hrs3
                  have hqb : qs.length ≤ 31 := by have h2 := congrArg List.length HQS.out; simp at h2; omega
                  have hol : os.length = qs.length + 0 := by have h1 := congrArg List.length hos; have h2 := congrArg List.length HQS.out; simp at h1 h2 ⊢; omega
                  have HOS := hid hos
                  have HOLX := hid hol
                  have HOLL := hid (show os.length ≤ 4611686018427387904 ∧ qs.length ≤ os.length by omega)
                  have l1 : ¬ (os.length : Int) < (qs.length : Int) := by omega
                  have l2 : ¬ (qs.length : Int) + 1 < (os.length : Int) := by omega
                  have l3 : (qs.length : Int) ≤ cm := by omega
                  have l4 : (0 : Int) ≤ (qs.length : Int) := by omega
                  have ZN := hid (show ((List.length (rs) : Nat) : Int) = (os.length : Int) by rw [← hos]; simp)
                  have EQ := hid (show (os.take qs.length).map (·.2) = qs.map (·.2) by rw [List.map_take, hos, HQS.out, List.take_of_length_le (by have h2 := congrArg List.length HQS.out; simp at h2 ⊢; omega)])
                  have OT := hid (T6.out.own.rds.take (m := qs.length) (by omega) (by omega))
                  clear hos hol M' T' F' G' hr S5 SU5 HOP
                  go_wp2_with fail
                  refine (sameL_yes _ _ (os.take qs.length) qs _ OT.out (SU6.out.rds M6.out.st.fr) EQ.out (by rw [List.length_take]; have := HOLL.out; omega)).mono ?_
                  rintro e w7 ⟨rfl, n7, rfl⟩
                  have M7 := hid (M6.out.keep ((Fr.refl No w6).drewN n7))
                  have T7 := hid (T6.out.keep ((Fr.refl No w6).drewN n7))
                  have SU7 := hid (SU6.out.keep ((Fr.refl No w6).drewN n7))
                  clear M6 T6 SU6 OT
                  generalize w6.drewN n7 = w7 at M7 T7 SU7 ⊢
                  go_wp2_with fail
                  refine (llen_c M7.out.log).mono ?_
                  rintro e wx ⟨rfl, rfl⟩
                  try dsimp only
                  rw [ZN.out]
                  go_wp2_with fail
                  refine (lbytes_c M7.out.log).mono ?_
                  rintro e wx ⟨rfl, rfl⟩
                  try dsimp only
                  rw [ZB.out]
                  go_wp2_with fail
                  refine (size_c M7.out.st.disk).mono ?_
                  rintro e wx ⟨rfl, rfl⟩
                  go_wp2_with fail
                  refine (synced_c M7.out.st.disk).mono ?_
                  rintro e wx ⟨rfl, rfl⟩
                  rw [ZS.out]
                  go_wp2_with fail
                  refine (size_c M7.out.st.disk).mono ?_
                  rintro e wx ⟨rfl, rfl⟩
                  have l5 : ¬ (qs.length : Int) < (os.length : Int) := by have := HOLX.out; omega
                  go_wp2_with fail
                  go_roundg (30 - (i + 1))
                  case measure => have := HQ.out; omega
                  case rel => exact ⟨i + 1, v6, gm, -1, os, _, rfl, rfl, by go_num, by omega, by omega, by omega, rfl, HOS.out, HGD, by have h := M7; exact h, Sure.told T7.out HNS.out⟩
                · replace hrs3 := hrs3.symm
                  subst hrs3
                  obtain ⟨bx, ox, hAx, _⟩ := HXI.out.at_ (k := 0) (by omega)
                  subst hAx
                  have hqb : qs.length ≤ 31 := by have h2 := congrArg List.length HQS.out; simp at h2; omega
                  have hol : os.length = qs.length + 1 := by have h1 := congrArg List.length hos; have h2 := congrArg List.length HQS.out; simp at h1 h2 ⊢; omega
                  have HOS := hid hos
                  have HOLX := hid hol
                  have HOLL := hid (show os.length ≤ 4611686018427387904 ∧ qs.length ≤ os.length by omega)
                  have l1 : ¬ (os.length : Int) < (qs.length : Int) := by omega
                  have l2 : ¬ (qs.length : Int) + 1 < (os.length : Int) := by omega
                  have l3 : (qs.length : Int) ≤ cm := by omega
                  have l4 : (0 : Int) ≤ (qs.length : Int) := by omega
                  have ZN := hid (show ((List.length (rs ++ [xs]) : Nat) : Int) = (os.length : Int) by rw [← hos]; simp)
                  have EQ := hid (show (os.take qs.length).map (·.2) = qs.map (·.2) by rw [List.map_take, hos, HQS.out, List.take_append_of_le_length (by have h2 := congrArg List.length HQS.out; simp at h2 ⊢; omega), List.take_of_length_le (by have h2 := congrArg List.length HQS.out; simp at h2 ⊢; omega)])
                  have OT := hid (T6.out.own.rds.take (m := qs.length) (by omega) (by omega))
                  clear hos hol M' T' F' G' hr S5 SU5 HOP
                  go_wp2_with fail
                  refine (sameL_yes _ _ (os.take qs.length) qs _ OT.out (SU6.out.rds M6.out.st.fr) EQ.out (by rw [List.length_take]; have := HOLL.out; omega)).mono ?_
                  rintro e w7 ⟨rfl, n7, rfl⟩
                  have M7 := hid (M6.out.keep ((Fr.refl No w6).drewN n7))
                  have T7 := hid (T6.out.keep ((Fr.refl No w6).drewN n7))
                  have SU7 := hid (SU6.out.keep ((Fr.refl No w6).drewN n7))
                  clear M6 T6 SU6 OT
                  generalize w6.drewN n7 = w7 at M7 T7 SU7 ⊢
                  go_wp2_with fail
                  refine (llen_c M7.out.log).mono ?_
                  rintro e wx ⟨rfl, rfl⟩
                  try dsimp only
                  rw [ZN.out]
                  go_wp2_with fail
                  refine (lbytes_c M7.out.log).mono ?_
                  rintro e wx ⟨rfl, rfl⟩
                  try dsimp only
                  rw [ZB.out]
                  go_wp2_with fail
                  refine (size_c M7.out.st.disk).mono ?_
                  rintro e wx ⟨rfl, rfl⟩
                  go_wp2_with fail
                  refine (synced_c M7.out.st.disk).mono ?_
                  rintro e wx ⟨rfl, rfl⟩
                  rw [ZS.out]
                  go_wp2_with fail
                  refine (size_c M7.out.st.disk).mono ?_
                  rintro e wx ⟨rfl, rfl⟩
                  have l5 : (qs.length : Int) < (os.length : Int) := by have := HOLX.out; omega
                  have HLT := hid (show qs.length < os.length by have := HOLX.out; omega)
                  obtain ⟨b9, off9, A9, c9, zs9, hA9, hz9, k9, hr9⟩ := (T7.out.own.rds).at_ HLT.out
                  subst hA9
                  have hzs : zs9 = xs := by
                    have h1 : (os.map (·.2))[qs.length]? = some zs9 := by rw [List.getElem?_map, hz9]; rfl
                    rw [HOS.out, List.getElem?_append_right (by have h2 := congrArg List.length HQS.out; simp at h2 ⊢; omega)] at h1
                    have h2 : qs.length - rs.length = 0 := by have := congrArg List.length HQS.out; simp at this; omega
                    rw [h2] at h1
                    simp at h1
                    exact h1.symm
                  subst hzs
                  have HR9 := hid hr9
                  have HXN := hid (HXI.out.too M7.out.st.fr)
                  clear hz9 hr9
                  go_wp2_with fail
                  refine (same_yes _ _ zs9 _ HR9.out HXN.out).mono ?_
                  rintro e wx ⟨rfl, rfl⟩
                  go_wp2_with fail
                  go_roundg (30 - (i + 1))
                  case measure => have := HQ.out; omega
                  case rel => exact ⟨i + 1, v6, gm, -1, os, _, rfl, rfl, by go_num, by omega, by omega, by simp; omega, rfl, HOS.out, HGD1, by have h := M7; exact h, Sure.told T7.out HNS.out⟩
              · have hadd := addL_of 1048576 rs a2 xs HGX.out hroom ha0 ha1 ha3
                have HADD := hid hadd
                obtain ⟨a3, ha4⟩ : ∃ a3, max (a2 - 2) (-1) = a3 := ⟨_, rfl⟩
                rw [ha4] at HADD
                have ha5 : -1 ≤ a3 := by omega
                have hb1 : qs.length + 1 ≤ maxLen := by simp only [maxLen]; omega
                have hb2 : (qs.length + 1) * 24 ≤ 140737488355328 := by omega
                clear hadd hroom ha0 ha1 ha3 ha4
                go_wp2_with fail
                refine (add_c S3.out.st.disk S3.out.log _ xs (HXI.out.too S3.out.st.fr) HB1.out.1 HB1.out.2.1 HB1.out.2.2.1 HB1.out.2.2.2 _ HADD.out).mono ?_
                intro e w4 hr
                obtain ⟨v4, rfl, S', F4, G4⟩ := S3.out.add hr
                have S4 := hid S'
                have SU4 := hid (SU3.out.added S3.out.st.disk S3.out.log F4 G4)
                have k04 : w4.cell? ⟨b, off + i, none⟩ = some (.slice A1 xs.length c1) := by
                  obtain ⟨b', off', A1', c1', xs', hv, hz', k0', _⟩ := (HYS.out.too S'.st.fr).at_ d1
                  injection hv with hv
                  injection hv with hv1 hv2
                  subst hv1 hv2
                  rw [HZ.out] at hz'
                  injection hz' with hz'
                  injection hz' with hz1 hz2
                  subst hz2
                  rw [hz1]
                  exact k0'
                clear S' F4 G4 hr k0 S3 SU3
                have k0 := k04
                clear k04
                have HROW := hid (SU4.out.row.keep ((Fr.refl No w4).alloc (.cells #[.slice A1 xs.length c1] 22)) (fun k _ => not_no k))
                go_wp2_with (at_builtin; refine wpl_app _ rfl (.tmp 85) (.tmp 90) _ rfl 22 _ 1 24 Try.underlying31 infoS (by rfl) (.slice Aq qs.length cq) qs.length (qs.map (·.1)) rfl HROW.out (.slice (some ⟨w4.heap.size, 0, none⟩) 1 1) 1 [.slice A1 xs.length c1] rfl (Rd.lit1 w4 22 #[.slice A1 xs.length c1] 1 rfl) (by intro u hu; simp only [List.mem_singleton] at hu; subst hu; rfl) hb1 hb2 ?_; intro v9 w9 o9 f9 g9; have S9 := hid ((S4.out.keep ((Fr.refl No w4).alloc (.cells #[.slice A1 xs.length c1] 22))).grown HROW.out SU4.out.new f9); have SU9 := hid ((SU4.out.keep ((Fr.refl No w4).alloc (.cells #[.slice A1 xs.length c1] 22))).push (.slice A1 xs.length c1, xs) HIN.out ((S4.out.st.fr.alloc _).size) o9 f9 g9); clear o9 f9 g9 S4 SU4 k0)
                refine (down_is S9.out.st.disk false rfl).mono ?_
                rintro e wx ⟨rfl, rfl⟩
                have HQ1 := hid (show (qs ++ [((.slice A1 xs.length c1 : Value), xs)]).map (·.2) = rs ++ [xs] by rw [List.map_append, HQS.out]; rfl)
                by_cases c4 : x4 = 0
                · have b4 : (x4 != 0) = false := by simp [c4]
                  have HQS := HQ1
                  have t4 := T4.out
                  clear c4 HQ1
                  go_wp2_with fail
                  clear t4
                  have S4 := S9
                  have SU4 := SU9
                  clear S9 SU9
                  obtain ⟨Q, hQ⟩ : ∃ Q, qs ++ [((.slice A1 xs.length c1 : Value), xs)] = Q := ⟨_, rfl⟩
                  rw [hQ] at SU4 HQS
                  obtain ⟨A8, c8, rfl, hc8, _⟩ := SU4.out.row.slice
                  clear hQ
                  have HG1 := hid (show ∀ r ∈ rs ++ [xs], Good r from fun r hr => ⟨(HGD1.out r hr).1, by have := (HGD1.out r hr).2; omega⟩)
                  have KL := hid (show ∀ n dc, crashD (diskOf 1048576 (rs ++ [xs]) a3) n = dc → ∃ rs2, openD dc = (diskOf 1048576 rs2 (-1), rs2, 0) ∧ dc.down = false ∧ rs2 = rs ++ [xs] from fun n dc h => ⟨rs ++ [xs], (kept_all 1048576 (rs ++ [xs]) HG1.out a3 false n dc h).1, (kept_all 1048576 (rs ++ [xs]) HG1.out a3 false n dc h).2, rfl⟩)
                  refine (crash_c S4.out.st.disk _ _ rfl).mono ?_
                  rintro e w5 ⟨v5, rfl, I, F, G⟩
                  generalize hdc : crashD _ _ = dc at I
                  obtain ⟨rs2, hop, hdn, hrs2⟩ := KL.out _ _ hdc
                  have S5 := hid (S4.out.disk I F G)
                  have SU5 := hid (SU4.out.disk S4.out.st.disk F G)
                  have HOP := hid hop
                  have HDN := hid hdn
                  clear I F G hdc hop hdn S4 SU4
                  go_wp2_with fail
                  refine (open_ok S5.out.st.disk HDN.out HOP.out).mono ?_
                  intro e w6 hr
                  obtain ⟨gm, vo, os, v6, rfl, M', T', hos, F', G', hgm⟩ := SL.opened S5.out.st hr
                  have M6 := hid M'
                  have T6 := hid T'
                  have SU6 := hid (SU5.out.disk S5.out.st.disk F' G')
                  have HNS := hid (show w.heap.size ≤ w5.heap.size from S5.out.st.fr.size)
                  obtain ⟨Am, cm, rfl, hcm⟩ := T'.own.rds.1.slice_
                  have ZB := hid (show (((recsB rs2).length : Nat) : Int) = ((diskOf 1048576 rs2 (-1)).bytes.length : Int) from rfl)
                  have ZS := hid (show ((diskOf 1048576 rs2 (-1)).synced : Int) = ((diskOf 1048576 rs2 (-1)).bytes.length : Int) from rfl)
                  have hrs3 := hrs2.symm
                  subst hrs3
                  have hqb : Q.length ≤ 31 := by have h2 := congrArg List.length HQS.out; simp at h2; omega
                  have hol : os.length = Q.length + 0 := by have h1 := congrArg List.length hos; have h2 := congrArg List.length HQS.out; simp at h1 h2 ⊢; omega
                  have HOS := hid hos
                  have HOLX := hid hol
                  have HOLL := hid (show os.length ≤ 4611686018427387904 ∧ Q.length ≤ os.length by omega)
                  have l1 : ¬ (os.length : Int) < (Q.length : Int) := by omega
                  have l2 : ¬ (Q.length : Int) + 1 < (os.length : Int) := by omega
                  have l3 : (Q.length : Int) ≤ cm := by omega
                  have l4 : (0 : Int) ≤ (Q.length : Int) := by omega
                  have ZN := hid (show ((List.length (rs ++ [xs]) : Nat) : Int) = (os.length : Int) by rw [← hos]; simp)
                  have EQ := hid (show (os.take Q.length).map (·.2) = Q.map (·.2) by rw [List.map_take, hos, HQS.out, List.take_of_length_le (by have h2 := congrArg List.length HQS.out; simp at h2 ⊢; omega)])
                  have OT := hid (T6.out.own.rds.take (m := Q.length) (by omega) (by omega))
                  clear hos hol M' T' F' G' hr S5 SU5 HOP
                  go_wp2_with fail
                  refine (sameL_yes _ _ (os.take Q.length) Q _ OT.out (SU6.out.rds M6.out.st.fr) EQ.out (by rw [List.length_take]; have := HOLL.out; omega)).mono ?_
                  rintro e w7 ⟨rfl, n7, rfl⟩
                  have M7 := hid (M6.out.keep ((Fr.refl No w6).drewN n7))
                  have T7 := hid (T6.out.keep ((Fr.refl No w6).drewN n7))
                  have SU7 := hid (SU6.out.keep ((Fr.refl No w6).drewN n7))
                  clear M6 T6 SU6 OT
                  generalize w6.drewN n7 = w7 at M7 T7 SU7 ⊢
                  go_wp2_with fail
                  refine (llen_c M7.out.log).mono ?_
                  rintro e wx ⟨rfl, rfl⟩
                  try dsimp only
                  rw [ZN.out]
                  go_wp2_with fail
                  refine (lbytes_c M7.out.log).mono ?_
                  rintro e wx ⟨rfl, rfl⟩
                  try dsimp only
                  rw [ZB.out]
                  go_wp2_with fail
                  refine (size_c M7.out.st.disk).mono ?_
                  rintro e wx ⟨rfl, rfl⟩
                  go_wp2_with fail
                  refine (synced_c M7.out.st.disk).mono ?_
                  rintro e wx ⟨rfl, rfl⟩
                  rw [ZS.out]
                  go_wp2_with fail
                  refine (size_c M7.out.st.disk).mono ?_
                  rintro e wx ⟨rfl, rfl⟩
                  have l5 : ¬ (Q.length : Int) < (os.length : Int) := by have := HOLX.out; omega
                  go_wp2_with fail
                  go_roundg (30 - (i + 1))
                  case measure => have := HQ.out; omega
                  case rel => exact ⟨i + 1, v6, gm, -1, os, _, rfl, rfl, by go_num, by omega, by omega, by simp; omega, rfl, HOS.out, HGD1, by have h := M7; exact h, Sure.told T7.out HNS.out⟩
                · have b4 : (x4 != 0) = true := by rw [bne_iff_ne]; exact c4
                  have t4 := T4.out
                  clear c4
                  go_wp2_with fail
                  go_roundg (30 - (i + 1))
                  case measure => have := HQ.out; omega
                  case rel => exact ⟨i + 1, v4, gl, a3, qs ++ [((.slice A1 xs.length c1 : Value), xs)], rs ++ [xs], rfl, rfl, by go_num, by omega, ha5, by simp; omega, rfl, HQ1, HGD1, S9, SU9⟩
    · have hend : ((i : Int) < ps.length ∧ (i : Int) < 30 ∧ ¬ (i : Int) < zs.length) ∨ ((i : Int) < ps.length ∧ ¬ (i : Int) < 30) ∨ ¬ (i : Int) < ps.length := by omega
      clear d0
      rcases hend with ⟨he1, he2, he3⟩ | ⟨he1, he2⟩ | he1
      all_goals
        go_wp2_with fail
        refine (awake_c _).mono ?_
        rintro e w10 ⟨rfl, B⟩
        have F10 := hid (S.out.st.fr.fresh_no B)
        clear B
        go_wp2_with fail
        go_ret
        exact ⟨rfl, F10.out⟩
end Go.Proofs.Ytfbhcapcnkcfdaa
