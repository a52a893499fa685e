import Derived.Test.YthcebkbedfaoeaaTellsH
import Derived.Deep.DeepCutAuto
import Derived.Deep.CutBlock
import Derived.Deep.DrawnRows
/-! LeaseTells. -/
namespace Go.Proofs.Ythcebkbedfaoeaa
open Go.RowKit Go.Lib
set_option linter.unusedVariables false
set_option linter.unusedSimpArgs false
attribute [local go_sem ↓] Go.wp_at_zero Go.wp_at_succ

set_option maxRecDepth 100000 in
set_option maxHeartbeats 4000000 in
theorem leaseTells_c (z0 z1 z2 : Int) (y : Value) (os : List Op6) (w : World) (hy : RdP w y os) :
    Calls Try.prog 8 #[.agg #[.int .i64 z0, .int .i64 z1, .int .i64 z2], y] w (RetT w) := by
  have HY := hid hy
  obtain ⟨A1, c1, rfl, hc1, _⟩ := hy.1
  clear hy
  have HB := hid (Blk.new w 49 #[.int .i64 z0, .int .i64 z1, .int .i64 z2])
  have k0 := HB.out.cell 0
  have k1 := HB.out.cell 1
  have k2 := HB.out.cell 2
  by_cases hr : 1 ≤ z0 ∧ z0 ≤ 16 ∧ 1 ≤ z1 ∧ z1 ≤ 1048576 ∧ 0 ≤ z2 ∧ z2 ≤ 1048576
  · have HR := hid hr
    clear hr
    obtain ⟨N, hN⟩ := Int.eq_ofNat_of_zero_le (show 0 ≤ z0 by have := HR.out; omega)
    subst hN
    have HN16 := hid (show N ≤ 16 by have := HR.out; omega)
    have HZL := hid (show 0 ≤ z1 ∧ z1 ≤ 1048576 by have := HR.out; omega)
    have HZS := hid (show 0 ≤ z2 ∧ z2 ≤ 1048576 by have := HR.out; omega)
    go_enter Try.func8, Try.ntmps8
    go_wp2_with fail
    refine (new_c _ N z1 z2 (by have := HR.out; omega) (by have := HR.out; omega) (by have := HR.out; omega) (by have := HR.out; omega) (by have := HR.out; omega) (by have := HR.out; omega)).mono ?_
    rintro e w1 ⟨g, b, rfl, t1, f1, sg, sb⟩
    have HB1 := hid (HB.out.keep f1 (not_no _))
    clear k0 k1 k2
    have k0 := HB1.out.cell 0
    have k1 := HB1.out.cell 1
    have k2 := HB1.out.cell 2
    have HT1 := hid t1
    have HF1 := hid (((Fr.refl No w).alloc (.cells #[.int .i64 N, .int .i64 z1, .int .i64 z2] 49)).fresh_no f1)
    have HSB := hid (show w.heap.size ≤ b by simp at sb; omega)
    clear t1 f1 sg sb
    go_wp2_with fail
    refine (rnew_c _ N z1 z2 (by have := HR.out; omega) (by have := HR.out; omega) (by have := HR.out; omega) (by have := HR.out; omega) (by have := HR.out; omega) (by have := HR.out; omega)).mono ?_
    rintro e w2 ⟨gr, rfl, r2, f2, sr⟩
    have HP0 := hid (show Ph w w2 g b gr N z1 z2 (.slice none 0 0) [] [] from ⟨HT1.out.keep f2, r2, HF1.out.fresh_no f2, HSB.out, Nat.le_trans HF1.out.size sr, fun x hx => absurd hx Of_none⟩)
    clear r2 f2 sr k0 k1 k2 HB1 HT1 HF1 HSB HB
    go_wp2_with fail
    go_loopg [9] 60 (fun q v9 w' => ∃ (i : Nat) (v : Value) (ms : List (K3 × Ls)) (ys : List Ls), v9 = .int .i64 i ∧ i ≤ 60 ∧ q = 60 - i ∧ Hid (ms.length ≤ i) ∧ Hid (Ph w w' g b gr N z1 z2 v ms ys) ∧ Hid (Pl N ms ys))
    case atStart => exact ⟨0, _, [], [], rfl, by omega, rfl, Nat.le_refl _, HP0, Pl.nil N⟩
    case round =>
      clear HP0
      obtain ⟨i, v, ms, ys, rfl, hi, hq, HML, HPR, HPL⟩ := hrel
      have HQ := hid hq
      clear hq
      by_cases d1 : i < os.length ∧ i < 60
      · obtain ⟨d1, d2⟩ := d1
        have d3 : (i : Int) < os.length := by omega
        have d4 : (i : Int) < 60 := by omega
        have HMI := HML
        have HML := hid (Nat.le_trans HML.out hi)
        obtain ⟨bb, off, dd, nn, vv, ff, ee, tt, rfl, hz, k0, k1, k2, k3, k4, k5, hok⟩ := (HY.out.keep HPR.out.fr).at_ d1
        have HOK := hid hok
        clear hok hz
        have HX := hid (Blk.new wr 23 #[.int .i64 dd, .int .i64 nn, .int .i64 vv, .int .i64 ff, .int .i64 ee, .int .i64 tt])
        have x0 := HX.out.cell 0
        go_wp2_with fail
        refine (pick_c dd 4 HOK.out.1.1 HOK.out.1.2 (by omega) (by omega) _).mono ?_
        rintro e wx ⟨rfl, hwx⟩
        have HPA := hid (HPR.out.keep ((Fr.refl No wr).alloc (.cells #[.int .i64 dd, .int .i64 nn, .int .i64 vv, .int .i64 ff, .int .i64 ee, .int .i64 tt] 23)))
        have HHW := hid hwx
        rw [← hwx] at HX HPA
        clear k0 k1 k2 k3 k4 k5 x0 hwx
        generalize wr.heap.size = xb at HX ⊢
        have HNX := hid (show ¬ (xb = b ∨ xb = gr) from fun e => e.elim (fun e => (HX.out.not_mapK HPA.out.tab.map) e) (fun e => (HX.out.ne_ HPA.out.ref.blk (by decide)) e))
        have HYL := hid (show ys.length ≤ 100000 by have h1 := HPL.out.len; have h2 := HML.out; omega)
        have m1 := Int.emod_nonneg dd (show (4 : Int) ≠ 0 by omega)
        have m2 := Int.emod_lt_of_pos dd (show (0 : Int) < 4 by omega)
        generalize dd % 4 = d at m1 m2 ⊢
        clear HPR HHW
        generalize wx = wa at HX HPA ⊢
        go_upto_block 2 with fail
        go_cut [9] (fun s9 wq => s9 = .int .i64 i ∧ ∃ (v : Value) (ms : List (K3 × Ls)) (ys : List Ls), Hid (ms.length ≤ i + 1) ∧ Hid (Ph w wq g b gr N z1 z2 v ms ys) ∧ Hid (Pl N ms ys) ∧ Hid (Blk wq xb 23 #[.int .i64 dd, .int .i64 nn, .int .i64 vv, .int .i64 ff, .int .i64 ee, .int .i64 tt]))
        case first =>
          rcases (show d = 0 ∨ d = 1 ∨ d = 2 ∨ d = 3 by omega) with rfl | rfl | rfl | rfl
          · clear m1 m2
            have x1 := HX.out.cell 1
            have x2 := HX.out.cell 2
            have x3 := HX.out.cell 3
            have x4 := HX.out.cell 4
            have x5 := HX.out.cell 5
            by_cases cN : nn < 0 ∨ (N : Int) ≤ nn
            · have HCN := hid cN
              clear cN
              go_wp2_with fail
              refine (grantNode_c HPA.out.tab nn vv ff ee tt HCN.out).mono ?_
              rintro e w5 ⟨rfl, f5⟩
              have HP5 := hid ((HPA.out.keep f5).keep ((Fr.refl No w5).alloc (.cells #[.int .i64 0, .int .i64 0, .int .i64 0, .int .i64 0, .int .i64 0] 30)))
              have HX5 := hid ((HX.out.keep f5 (not_no _)).alloc (.cells #[.int .i64 0, .int .i64 0, .int .i64 0, .int .i64 0, .int .i64 0] 30))
              have HL5 := hid (Blk.new w5 30 #[.int .i64 0, .int .i64 0, .int .i64 0, .int .i64 0, .int .i64 0])
              clear f5 HPA HX x1 x2 x3 x4 x5
              unfold zeroL
              have x1 := HX5.out.cell 1
              have x2 := HX5.out.cell 2
              have x3 := HX5.out.cell 3
              have x4 := HX5.out.cell 4
              have x5 := HX5.out.cell 5
              go_wp2_with fail
              refine (rgrantNode_c HP5.out.ref nn vv ff ee tt HCN.out).mono ?_
              rintro e w6 ⟨rfl, f6⟩
              have HP6 := hid ((HP5.out.keep f6).keep ((Fr.refl No w6).alloc (.cells #[.int .i64 0, .int .i64 0, .int .i64 0, .int .i64 0, .int .i64 0] 30)))
              have HX6 := hid ((HX5.out.keep f6 (not_no _)).alloc (.cells #[.int .i64 0, .int .i64 0, .int .i64 0, .int .i64 0, .int .i64 0] 30))
              have HL6 := (HL5.out.keep f6 (not_no _)).alloc (.cells #[.int .i64 0, .int .i64 0, .int .i64 0, .int .i64 0, .int .i64 0] 30)
              have y0 := HL6.cell 0
              have y1 := HL6.cell 1
              have y2 := HL6.cell 2
              have y3 := HL6.cell 3
              have y4 := HL6.cell 4
              clear f6 HP5 HX5 HL5 HL6 x1 x2 x3 x4 x5
              unfold zeroL
              go_wp2_with fail
              go_meet
              exact ⟨rfl, v, ms, ys, Nat.le_succ_of_le HMI.out, HP6, HPL, HX6⟩
            · by_cases cA : (vv < 0 ∨ 1099511627776 < vv) ∨ (ff < 0 ∨ 1099511627776 < ff) ∨ (ee < 0 ∨ 1099511627776 < ee) ∨ (tt < 0 ∨ 1099511627776 < tt)
              · have HCN := hid cN
                have HCA := hid cA
                have HCB := hid (show (min (min (min vv ff) ee) tt) < 0 ∨ 1099511627776 < (max (max (max vv ff) ee) tt) by omega)
                clear cN cA
                go_wp2_with fail
                refine (grantArg_c HPA.out.tab nn vv ff ee tt HCN.out HCB.out).mono ?_
                rintro e w5 ⟨rfl, f5⟩
                have HP5 := hid ((HPA.out.keep f5).keep ((Fr.refl No w5).alloc (.cells #[.int .i64 0, .int .i64 0, .int .i64 0, .int .i64 0, .int .i64 0] 30)))
                have HX5 := hid ((HX.out.keep f5 (not_no _)).alloc (.cells #[.int .i64 0, .int .i64 0, .int .i64 0, .int .i64 0, .int .i64 0] 30))
                have HL5 := hid (Blk.new w5 30 #[.int .i64 0, .int .i64 0, .int .i64 0, .int .i64 0, .int .i64 0])
                clear f5 HPA HX x1 x2 x3 x4 x5
                unfold zeroL
                have x1 := HX5.out.cell 1
                have x2 := HX5.out.cell 2
                have x3 := HX5.out.cell 3
                have x4 := HX5.out.cell 4
                have x5 := HX5.out.cell 5
                go_wp2_with fail
                refine (rgrantArg_c HP5.out.ref nn vv ff ee tt HCN.out HCA.out).mono ?_
                rintro e w6 ⟨rfl, f6⟩
                have HP6 := hid ((HP5.out.keep f6).keep ((Fr.refl No w6).alloc (.cells #[.int .i64 0, .int .i64 0, .int .i64 0, .int .i64 0, .int .i64 0] 30)))
                have HX6 := hid ((HX5.out.keep f6 (not_no _)).alloc (.cells #[.int .i64 0, .int .i64 0, .int .i64 0, .int .i64 0, .int .i64 0] 30))
                have HL6 := (HL5.out.keep f6 (not_no _)).alloc (.cells #[.int .i64 0, .int .i64 0, .int .i64 0, .int .i64 0, .int .i64 0] 30)
                have y0 := HL6.cell 0
                have y1 := HL6.cell 1
                have y2 := HL6.cell 2
                have y3 := HL6.cell 3
                have y4 := HL6.cell 4
                clear f6 HP5 HX5 HL5 HL6 x1 x2 x3 x4 x5
                unfold zeroL
                go_wp2_with fail
                go_meet
                exact ⟨rfl, v, ms, ys, Nat.le_succ_of_le HMI.out, HP6, HPL, HX6⟩
              · have HB1 := hid (show 0 ≤ nn ∧ nn < N by omega)
                have HB2 := hid (show 0 ≤ vv ∧ vv ≤ 1099511627776 by omega)
                have HB3 := hid (show 0 ≤ ff ∧ ff ≤ 1099511627776 by omega)
                have HB4 := hid (show 0 ≤ ee ∧ ee ≤ 1099511627776 by omega)
                have HB5 := hid (show 0 ≤ tt ∧ tt ≤ 1099511627776 by omega)
                have HYL := hid (show ys.length ≤ 100000 by have h1 := HPL.out.len; have h2 := HML.out; omega)
                clear cN cA
                by_cases cw : (wasOf (nn, vv, ff) ms).epoch ≤ ee
                · have HW := hid cw
                  clear cw
                  go_wp2_with fail
                  refine (grant_ok HPA.out.tab nn vv ff ee tt HB1.out HB2.out HB3.out HB4.out HB5.out HZL.out HW.out).mono ?_
                  obtain ⟨til, htil⟩ : ∃ til, max (tt + z1) (wasOf (nn, vv, ff) ms).till = til := ⟨_, rfl⟩
                  have HTIL := hid htil
                  clear htil
                  rw [HTIL.out]
                  rintro e w5 ⟨rfl, t5, f5⟩
                  have HP5 := hid ((HPA.out.turn t5 f5).keep ((Fr.refl No w5).alloc (.cells #[.int .i64 nn, .int .i64 vv, .int .i64 ff, .int .i64 ee, .int .i64 til] 30)))
                  have HX5 := hid ((HX.out.keep f5 (HX.out.not_mapK HPA.out.tab.map)).alloc (.cells #[.int .i64 nn, .int .i64 vv, .int .i64 ff, .int .i64 ee, .int .i64 til] 30))
                  have HL5 := hid (Blk.new w5 30 #[.int .i64 nn, .int .i64 vv, .int .i64 ff, .int .i64 ee, .int .i64 til])
                  have HGL5 := hid (show gr < w5.heap.size ∧ ∀ x, Of v x → x < w5.heap.size from ⟨(HPA.out.turn t5 f5).ref.blk.lt, (HPA.out.turn t5 f5).ref.own.lt⟩)
                  clear t5 f5 HPA HX x1 x2 x3 x4 x5
                  unfold Ls.val Ls.cells
                  dsimp only
                  have x1 := HX5.out.cell 1
                  have x2 := HX5.out.cell 2
                  have x3 := HX5.out.cell 3
                  have x4 := HX5.out.cell 4
                  have x5 := HX5.out.cell 5
                  go_wp2_with fail
                  refine (rgrant_c HP5.out.ref HYL.out nn vv ff ee tt HB1.out HB2.out HB3.out HB4.out HB5.out HZL.out).mono ?_
                  intro e w6 hg
                  obtain ⟨he, v6, ys6, r6, p6, f6, n6⟩ := HPL.out.grants hg HB1.out HB5.out HZL.out HB4.out.1 HW.out
                  rw [HTIL.out] at he p6
                  subst he
                  have HP6 := hid ((HP5.out.turnR r6 f6 n6).keep ((Fr.refl No w6).alloc (.cells #[.int .i64 nn, .int .i64 vv, .int .i64 ff, .int .i64 ee, .int .i64 til] 30)))
                  have HPL6 := hid p6
                  have HX6 := hid ((HX5.out.keep f6 (fun e => e.elim (fun e => (HX5.out.ne_ HP5.out.ref.blk (by decide)) e) (fun e => HP5.out.ref.own.ne_ HX5.out (by decide) e))).alloc (.cells #[.int .i64 nn, .int .i64 vv, .int .i64 ff, .int .i64 ee, .int .i64 til] 30))
                  have HL6 := (HL5.out.keep f6 (fun e => e.elim (fun e => by have := HGL5.out.1; omega) (fun e => by have := HGL5.out.2 _ e; omega))).alloc (.cells #[.int .i64 nn, .int .i64 vv, .int .i64 ff, .int .i64 ee, .int .i64 til] 30)
                  have y0 := HL6.cell 0
                  have y1 := HL6.cell 1
                  have y2 := HL6.cell 2
                  have y3 := HL6.cell 3
                  have y4 := HL6.cell 4
                  clear hg r6 p6 f6 n6 HP5 HX5 HL5 HL6 HGL5 x1 x2 x3 x4 x5
                  go_wp2_with fail
                  go_meet
                  exact ⟨rfl, v6, _, ys6, Nat.le_trans (putT_len _ _ _) (Nat.succ_le_succ HMI.out), HP6, HPL6, HX6⟩
                · have HW := hid (show ee < (wasOf (nn, vv, ff) ms).epoch by omega)
                  clear cw
                  go_wp2_with fail
                  refine (grant_epoch HPA.out.tab nn vv ff ee tt HB1.out HB2.out HB3.out HB4.out HB5.out HW.out).mono ?_
                  rintro e w5 ⟨rfl, f5⟩
                  have HP5 := hid ((HPA.out.keep f5).keep ((Fr.refl No w5).alloc (.cells #[.int .i64 0, .int .i64 0, .int .i64 0, .int .i64 0, .int .i64 0] 30)))
                  have HX5 := hid ((HX.out.keep f5 (not_no _)).alloc (.cells #[.int .i64 0, .int .i64 0, .int .i64 0, .int .i64 0, .int .i64 0] 30))
                  have HL5 := hid (Blk.new w5 30 #[.int .i64 0, .int .i64 0, .int .i64 0, .int .i64 0, .int .i64 0])
                  clear f5 HPA HX x1 x2 x3 x4 x5
                  unfold zeroL
                  have x1 := HX5.out.cell 1
                  have x2 := HX5.out.cell 2
                  have x3 := HX5.out.cell 3
                  have x4 := HX5.out.cell 4
                  have x5 := HX5.out.cell 5
                  go_wp2_with fail
                  refine ((rgrant_c HP5.out.ref HYL.out nn vv ff ee tt HB1.out HB2.out HB3.out HB4.out HB5.out HZL.out).mono (fun e w6 hg => HPL.out.refuses hg HB4.out.1 HW.out)).mono ?_
                  rintro e w6 ⟨rfl, f6⟩
                  have HP6 := hid ((HP5.out.keep f6).keep ((Fr.refl No w6).alloc (.cells #[.int .i64 0, .int .i64 0, .int .i64 0, .int .i64 0, .int .i64 0] 30)))
                  have HX6 := hid ((HX5.out.keep f6 (not_no _)).alloc (.cells #[.int .i64 0, .int .i64 0, .int .i64 0, .int .i64 0, .int .i64 0] 30))
                  have HL6 := (HL5.out.keep f6 (not_no _)).alloc (.cells #[.int .i64 0, .int .i64 0, .int .i64 0, .int .i64 0, .int .i64 0] 30)
                  have y0 := HL6.cell 0
                  have y1 := HL6.cell 1
                  have y2 := HL6.cell 2
                  have y3 := HL6.cell 3
                  have y4 := HL6.cell 4
                  clear f6 HP5 HX5 HL5 HL6 x1 x2 x3 x4 x5
                  unfold zeroL
                  go_wp2_with fail
                  go_meet
                  exact ⟨rfl, v, ms, ys, Nat.le_succ_of_le HMI.out, HP6, HPL, HX6⟩
          · clear m1 m2
            have HANS := hid (show (ms.length : Int) - ((ms.filter (fun p => !goesA nn ee p.2)).length : Nat) = (ys.length : Int) - ((ys.filter (fun x => !goesA nn ee x)).length : Nat) from HPL.out.answer (fun x => !goesA nn ee x))
            have KS := hid (show ∀ w', Fr (fun x => x = b ∨ x = gr) wa w' → w'.cell? ⟨xb, 1, none⟩ = some (.int .i64 nn) ∧ w'.cell? ⟨xb, 4, none⟩ = some (.int .i64 ee) from fun w' hf => by
              have q := HX.out.keep hf HNX.out
              exact ⟨q.cell 1, q.cell 4⟩)
            go_upto_region 18 with fail
            refine wp_region_held_drew (S := (fun w' => w'.cell? ⟨xb, 1, none⟩ = some (.int .i64 nn) ∧ w'.cell? ⟨xb, 4, none⟩ = some (.int .i64 ee))) (by kernel_rfl) ?_ (fun hHeld => ?_)
            · (try dsimp only)
              (refine KS.out _ ?_; with_reducible first | exact HF6.out | exact HF5.out | exact (Fr.refl _ wa).drew | exact Fr.refl _ wa)
            refine wpAnyH_take (i := 0) (oi := ⟨_, _, _, _, _, _⟩) (v := ?_) rfl (by kernel_rfl) (by kernel_rfl) (by kernel_rfl) (fun _ _ _ h => h) (Or.inl ⟨by rfl, ?_⟩) (by assumption) ?_
            rotate_left
            · (intro w hSw; (try dsimp only at hSw); go_simp)
              try with_reducible rfl
            try simp only [Act.put, List.setIfInBounds_toArray, List.set_cons_zero, List.set_cons_succ]
            refine wpAnyH_take (i := 1) (oi := ⟨_, _, _, _, _, _⟩) (v := ?_) rfl (by kernel_rfl) (by kernel_rfl) (by kernel_rfl) (fun _ _ _ h => h) (Or.inl ⟨by rfl, ?_⟩) (by assumption) ?_
            rotate_left
            · (intro w hSw; (try dsimp only at hSw); go_simp)
              try with_reducible rfl
            try simp only [Act.put, List.setIfInBounds_toArray, List.set_cons_zero, List.set_cons_succ]
            refine wpAnyH_take (i := 2) (oi := ⟨_, _, _, _, _, _⟩) (v := ?_) rfl (by kernel_rfl) (by kernel_rfl) (by kernel_rfl) (fun _ _ _ h => h) (Or.inl ⟨by rfl, ?_⟩) (by assumption) ?_
            rotate_left
            · (intro w hSw; (try dsimp only at hSw); go_simp)
              try with_reducible rfl
            try simp only [Act.put, List.setIfInBounds_toArray, List.set_cons_zero, List.set_cons_succ]
            refine wpAnyH_take (i := 3) (oi := ⟨_, _, _, _, _, _⟩) (v := ?_) rfl (by kernel_rfl) (by kernel_rfl) (by kernel_rfl) (fun _ _ _ h => h) (Or.inl ⟨by rfl, ?_⟩) (by assumption) ?_
            rotate_left
            · (intro w hSw; (try dsimp only at hSw); go_simp)
              try with_reducible rfl
            try simp only [Act.put, List.setIfInBounds_toArray, List.set_cons_zero, List.set_cons_succ]
            refine wpAnyH_take (i := 4) (oi := ⟨_, _, _, _, _, _⟩) (v := ?_) rfl (by kernel_rfl) (by kernel_rfl) (by kernel_rfl) (fun _ _ _ h => h) (Or.inl ⟨by rfl, ?_⟩) (by assumption) ?_
            rotate_left
            · (intro w hSw; (try dsimp only at hSw); go_simp)
              try with_reducible rfl
            try simp only [Act.put, List.setIfInBounds_toArray, List.set_cons_zero, List.set_cons_succ]
            refine wpAnyH_take (i := 6) (oi := ⟨_, _, _, _, _, _⟩) (v := ?_) rfl (by kernel_rfl) (by kernel_rfl) (by kernel_rfl) (fun _ _ _ h => h) (Or.inl ⟨by rfl, ?_⟩) (by assumption) ?_
            rotate_left
            · (intro w hSw; (try dsimp only at hSw); go_simp)
              try with_reducible rfl
            try simp only [Act.put, List.setIfInBounds_toArray, List.set_cons_zero, List.set_cons_succ]
            refine wpAnyH_take (i := 7) (oi := ⟨_, _, _, _, _, _⟩) (v := ?_) rfl (by kernel_rfl) (by kernel_rfl) (by kernel_rfl) (fun _ _ _ h => h) (Or.inl ⟨by rfl, ?_⟩) (by assumption) ?_
            rotate_left
            · (intro w hSw; (try dsimp only at hSw); go_simp)
              try with_reducible rfl
            try simp only [Act.put, List.setIfInBounds_toArray, List.set_cons_zero, List.set_cons_succ]
            refine wpAnyH_take (i := 8) (oi := ⟨_, _, _, _, _, _⟩) (v := ?_) rfl (by kernel_rfl) (by kernel_rfl) (by kernel_rfl) (fun _ _ _ h => h) (Or.inl ⟨by rfl, ?_⟩) (by assumption) ?_
            rotate_left
            · (intro w hSw; (try dsimp only at hSw); go_simp)
              try with_reducible rfl
            try simp only [Act.put, List.setIfInBounds_toArray, List.set_cons_zero, List.set_cons_succ]
            refine wpAnyH_take (i := 9) (oi := ⟨_, _, _, _, _, _⟩) (v := ?_) rfl (by kernel_rfl) (by kernel_rfl) (by kernel_rfl) (fun _ _ _ h => h) (Or.inl ⟨by rfl, ?_⟩) (by assumption) ?_
            rotate_left
            · (intro w hSw; (try dsimp only at hSw); go_simp)
              try with_reducible rfl
            try simp only [Act.put, List.setIfInBounds_toArray, List.set_cons_zero, List.set_cons_succ]
            refine wpAnyH_take (i := 10) (oi := ⟨_, _, _, _, _, _⟩) (v := ?_) rfl (by kernel_rfl) (by kernel_rfl) (by kernel_rfl) (fun _ _ _ h => h) (Or.inl ⟨by rfl, ?_⟩) (by assumption) ?_
            rotate_left
            · (intro w hSw; (try dsimp only at hSw); go_simp)
              try with_reducible rfl
            try simp only [Act.put, List.setIfInBounds_toArray, List.set_cons_zero, List.set_cons_succ]
            refine wpAnyH_ready (rs := [5]) (by kernel_rfl) (by simp) ?_
            refine AllReadyH.cons (o := ⟨_, _, _, _, _, _⟩) rfl (fun K hK => ?_) ?_
            rotate_left
            · exact AllReadyH.nil
            go_simp
            refine (acked_c (HPA.out.keep ((Fr.refl No wa).drew)).tab nn ee HPL.out.key.tills (by have := HML.out; omega)).mono ?_
            rintro e w5 ⟨he, t5, f5⟩
            rw [HANS.out] at he
            subst he
            have HF5 := hid (show Fr (fun x => x = b ∨ x = gr) wa w5 from Fr.trans (S := fun x => x = b ∨ x = gr) ((Fr.refl _ wa).drew) f5 (fun _ _ h => .inl h))
            have HP5 := hid ((HPA.out.keep ((Fr.refl No wa).drew)).turn t5 f5)
            clear t5 f5
            try go_wp2_with fail
            refine hK.out _ _ ?_ (fun hHeld => ?_)
            · (try dsimp only)
              first | assumption | (refine KS.out _ ?_; with_reducible first | exact HF6.out | exact HF5.out | exact (Fr.refl _ wa).drew | exact Fr.refl _ wa)
            clear hK K
            try simp only [Act.put, List.setIfInBounds_toArray, List.set_cons_zero, List.set_cons_succ]
            refine wpAnyH_ready (rs := [11]) (by kernel_rfl) (by simp) ?_
            refine AllReadyH.cons (o := ⟨_, _, _, _, _, _⟩) rfl (fun K hK => ?_) ?_
            rotate_left
            · exact AllReadyH.nil
            go_simp
            refine (rAcked_c HP5.out.ref HYL.out nn ee).mono ?_
            rintro e w6 ⟨v6, rfl, r6, f6, n6⟩
            have HF6 := hid (show Fr (fun x => x = b ∨ x = gr) wa w6 from Fr.trans (S := fun x => x = b ∨ x = gr) HF5.out f6 (fun _ _ h => .inr h))
            have HP6 := hid (HP5.out.turnR r6 (f6.mono (fun _ _ h => .inl h)) (fun k hk => .inr (n6 k hk)))
            clear r6 f6 n6
            try go_wp2_with fail
            refine hK.out _ _ ?_ (fun hHeld => ?_)
            · (try dsimp only)
              first | assumption | (refine KS.out _ ?_; with_reducible first | exact HF6.out | exact HF5.out | exact (Fr.refl _ wa).drew | exact Fr.refl _ wa)
            clear hK K
            try simp only [Act.put, List.setIfInBounds_toArray, List.set_cons_zero, List.set_cons_succ]
            refine wpAnyH_take (i := 12) (oi := ⟨_, _, _, _, _, _⟩) (v := ?_) rfl (by kernel_rfl) (by kernel_rfl) (by kernel_rfl) (fun _ _ _ h => h) (Or.inl ⟨by rfl, ?_⟩) (by assumption) ?_
            rotate_left
            · (intro w hSw; (try dsimp only at hSw); go_simp)
              try with_reducible rfl
            try simp only [Act.put, List.setIfInBounds_toArray, List.set_cons_zero, List.set_cons_succ]
            refine wpAnyH_done (by kernel_rfl) ?_ _
            have HX6 := hid (HX.out.keep HF6.out HNX.out)
            clear KS HF5 HF6 HP5 HPA HX
            go_wp2_with fail
            go_meet
            exact ⟨rfl, v6, _, _, Nat.le_trans (List.length_filter_le _ _) (Nat.le_succ_of_le HMI.out), HP6, HPL.out.filter (fun x => !goesA nn ee x), HX6⟩
          · clear m1 m2
            have HANS := hid (show (ms.length : Int) - ((ms.filter (fun p => !goesE z2 tt p.2)).length : Nat) = (ys.length : Int) - ((ys.filter (fun x => !goesE z2 tt x)).length : Nat) from HPL.out.answer (fun x => !goesE z2 tt x))
            have KS := hid (show ∀ w', Fr (fun x => x = b ∨ x = gr) wa w' → w'.cell? ⟨xb, 5, none⟩ = some (.int .i64 tt) from fun w' hf => by
              have q := HX.out.keep hf HNX.out
              exact q.cell 5)
            go_upto_region 21 with fail
            refine wp_region_held_drew (S := (fun w' => w'.cell? ⟨xb, 5, none⟩ = some (.int .i64 tt))) (by kernel_rfl) ?_ (fun hHeld => ?_)
            · (try dsimp only)
              (refine KS.out _ ?_; with_reducible first | exact HF6.out | exact HF5.out | exact (Fr.refl _ wa).drew | exact Fr.refl _ wa)
            refine wpAnyH_take (i := 0) (oi := ⟨_, _, _, _, _, _⟩) (v := ?_) rfl (by kernel_rfl) (by kernel_rfl) (by kernel_rfl) (fun _ _ _ h => h) (Or.inl ⟨by rfl, ?_⟩) (by assumption) ?_
            rotate_left
            · (intro w hSw; (try dsimp only at hSw); go_simp)
              try with_reducible rfl
            try simp only [Act.put, List.setIfInBounds_toArray, List.set_cons_zero, List.set_cons_succ]
            refine wpAnyH_take (i := 1) (oi := ⟨_, _, _, _, _, _⟩) (v := ?_) rfl (by kernel_rfl) (by kernel_rfl) (by kernel_rfl) (fun _ _ _ h => h) (Or.inl ⟨by rfl, ?_⟩) (by assumption) ?_
            rotate_left
            · (intro w hSw; (try dsimp only at hSw); go_simp)
              try with_reducible rfl
            try simp only [Act.put, List.setIfInBounds_toArray, List.set_cons_zero, List.set_cons_succ]
            refine wpAnyH_take (i := 2) (oi := ⟨_, _, _, _, _, _⟩) (v := ?_) rfl (by kernel_rfl) (by kernel_rfl) (by kernel_rfl) (fun _ _ _ h => h) (Or.inl ⟨by rfl, ?_⟩) (by assumption) ?_
            rotate_left
            · (intro w hSw; (try dsimp only at hSw); go_simp)
              try with_reducible rfl
            try simp only [Act.put, List.setIfInBounds_toArray, List.set_cons_zero, List.set_cons_succ]
            refine wpAnyH_take (i := 4) (oi := ⟨_, _, _, _, _, _⟩) (v := ?_) rfl (by kernel_rfl) (by kernel_rfl) (by kernel_rfl) (fun _ _ _ h => h) (Or.inl ⟨by rfl, ?_⟩) (by assumption) ?_
            rotate_left
            · (intro w hSw; (try dsimp only at hSw); go_simp)
              try with_reducible rfl
            try simp only [Act.put, List.setIfInBounds_toArray, List.set_cons_zero, List.set_cons_succ]
            refine wpAnyH_take (i := 5) (oi := ⟨_, _, _, _, _, _⟩) (v := ?_) rfl (by kernel_rfl) (by kernel_rfl) (by kernel_rfl) (fun _ _ _ h => h) (Or.inl ⟨by rfl, ?_⟩) (by assumption) ?_
            rotate_left
            · (intro w hSw; (try dsimp only at hSw); go_simp)
              try with_reducible rfl
            try simp only [Act.put, List.setIfInBounds_toArray, List.set_cons_zero, List.set_cons_succ]
            refine wpAnyH_take (i := 6) (oi := ⟨_, _, _, _, _, _⟩) (v := ?_) rfl (by kernel_rfl) (by kernel_rfl) (by kernel_rfl) (fun _ _ _ h => h) (Or.inl ⟨by rfl, ?_⟩) (by assumption) ?_
            rotate_left
            · (intro w hSw; (try dsimp only at hSw); go_simp)
              try with_reducible rfl
            try simp only [Act.put, List.setIfInBounds_toArray, List.set_cons_zero, List.set_cons_succ]
            refine wpAnyH_ready (rs := [3]) (by kernel_rfl) (by simp) ?_
            refine AllReadyH.cons (o := ⟨_, _, _, _, _, _⟩) rfl (fun K hK => ?_) ?_
            rotate_left
            · exact AllReadyH.nil
            go_simp
            refine (expire_c (HPA.out.keep ((Fr.refl No wa).drew)).tab tt HPL.out.key.tills (by have := HML.out; omega) HZS.out).mono ?_
            rintro e w5 ⟨he, t5, f5⟩
            rw [HANS.out] at he
            subst he
            have HF5 := hid (show Fr (fun x => x = b ∨ x = gr) wa w5 from Fr.trans (S := fun x => x = b ∨ x = gr) ((Fr.refl _ wa).drew) f5 (fun _ _ h => .inl h))
            have HP5 := hid ((HPA.out.keep ((Fr.refl No wa).drew)).turn t5 f5)
            clear t5 f5
            try go_wp2_with fail
            refine hK.out _ _ ?_ (fun hHeld => ?_)
            · (try dsimp only)
              first | assumption | (refine KS.out _ ?_; with_reducible first | exact HF6.out | exact HF5.out | exact (Fr.refl _ wa).drew | exact Fr.refl _ wa)
            clear hK K
            try simp only [Act.put, List.setIfInBounds_toArray, List.set_cons_zero, List.set_cons_succ]
            refine wpAnyH_ready (rs := [7]) (by kernel_rfl) (by simp) ?_
            refine AllReadyH.cons (o := ⟨_, _, _, _, _, _⟩) rfl (fun K hK => ?_) ?_
            rotate_left
            · exact AllReadyH.nil
            go_simp
            refine (rExpire_c HP5.out.ref HYL.out HZS.out HPL.out.tills tt).mono ?_
            rintro e w6 ⟨v6, rfl, r6, f6, n6⟩
            have HF6 := hid (show Fr (fun x => x = b ∨ x = gr) wa w6 from Fr.trans (S := fun x => x = b ∨ x = gr) HF5.out f6 (fun _ _ h => .inr h))
            have HP6 := hid (HP5.out.turnR r6 (f6.mono (fun _ _ h => .inl h)) (fun k hk => .inr (n6 k hk)))
            clear r6 f6 n6
            try go_wp2_with fail
            refine hK.out _ _ ?_ (fun hHeld => ?_)
            · (try dsimp only)
              first | assumption | (refine KS.out _ ?_; with_reducible first | exact HF6.out | exact HF5.out | exact (Fr.refl _ wa).drew | exact Fr.refl _ wa)
            clear hK K
            try simp only [Act.put, List.setIfInBounds_toArray, List.set_cons_zero, List.set_cons_succ]
            refine wpAnyH_take (i := 8) (oi := ⟨_, _, _, _, _, _⟩) (v := ?_) rfl (by kernel_rfl) (by kernel_rfl) (by kernel_rfl) (fun _ _ _ h => h) (Or.inl ⟨by rfl, ?_⟩) (by assumption) ?_
            rotate_left
            · (intro w hSw; (try dsimp only at hSw); go_simp)
              try with_reducible rfl
            try simp only [Act.put, List.setIfInBounds_toArray, List.set_cons_zero, List.set_cons_succ]
            refine wpAnyH_done (by kernel_rfl) ?_ _
            have HX6 := hid (HX.out.keep HF6.out HNX.out)
            clear KS HF5 HF6 HP5 HPA HX
            go_wp2_with fail
            go_meet
            exact ⟨rfl, v6, _, _, Nat.le_trans (List.length_filter_le _ _) (Nat.le_succ_of_le HMI.out), HP6, HPL.out.filter (fun x => !goesE z2 tt x), HX6⟩
          · go_wp2_with fail
            go_meet
            exact ⟨rfl, v, ms, ys, Nat.le_succ_of_le HMI.out, HPA, HPL, HX⟩
        case rest =>
          clear HPA HPL HX HYL
          obtain ⟨rfl, v, ms, ys, HMI, HPC, HPL, HXC⟩ := hcut
          have HML := hid (show ms.length ≤ 61 by have := HMI.out; omega)
          obtain ⟨Av, cv, rfl, _, _⟩ := HPC.out.ref.own.slice
          have KS := hid (show ∀ w', Fr No wc w' → w'.cell? ⟨gr, 3, none⟩ = some (.slice Av ys.length cv) ∧ w'.cell? ⟨xb, 4, none⟩ = some (.int .i64 ee) ∧ w'.cell? ⟨xb, 5, none⟩ = some (.int .i64 tt) from fun w' hf => by
            have q := HPC.out.keep hf
            have q2 := HXC.out.keep hf (not_no _)
            obtain ⟨_, _, _, e3, _⟩ := q.ref.blk.four
            exact ⟨e3, q2.cell 4, q2.cell 5⟩)
          have HYL := hid (show ys.length ≤ 100000 by have h1 := HPL.out.len; have h2 := HML.out; omega)
          go_upto_region 23 with fail
          refine wp_region_held_drew (S := (fun w' => w'.cell? ⟨gr, 3, none⟩ = some (.slice Av ys.length cv) ∧ w'.cell? ⟨xb, 4, none⟩ = some (.int .i64 ee) ∧ w'.cell? ⟨xb, 5, none⟩ = some (.int .i64 tt))) (by kernel_rfl) ?_ (fun hHeld => ?_)
          · (try dsimp only)
            (refine KS.out _ ?_; with_reducible first | exact HF9.out | exact HF8.out | exact HF7.out | exact HF6.out | exact HF5.out | exact (Fr.refl _ wc).drew | exact Fr.refl _ wc)
          refine wpAnyH_take (i := 0) (oi := ⟨_, _, _, _, _, _⟩) (v := ?_) rfl (by kernel_rfl) (by kernel_rfl) (by kernel_rfl) (fun _ _ _ h => h) (Or.inl ⟨by rfl, ?_⟩) (by assumption) ?_
          rotate_left
          · (intro w hSw; (try dsimp only at hSw); go_simp)
            try with_reducible rfl
          try simp only [Act.put, List.setIfInBounds_toArray, List.set_cons_zero, List.set_cons_succ]
          refine wpAnyH_take (i := 2) (oi := ⟨_, _, _, _, _, _⟩) (v := ?_) rfl (by kernel_rfl) (by kernel_rfl) (by kernel_rfl) (fun _ _ _ h => h) (Or.inl ⟨by rfl, ?_⟩) (by assumption) ?_
          rotate_left
          · (intro w hSw; (try dsimp only at hSw); go_simp)
            try with_reducible rfl
          try simp only [Act.put, List.setIfInBounds_toArray, List.set_cons_zero, List.set_cons_succ]
          refine wpAnyH_take (i := 3) (oi := ⟨_, _, _, _, _, _⟩) (v := ?_) rfl (by kernel_rfl) (by kernel_rfl) (by kernel_rfl) (fun _ _ _ h => h) (Or.inl ⟨by rfl, ?_⟩) (by assumption) ?_
          rotate_left
          · (intro w hSw; (try dsimp only at hSw); go_simp)
            try with_reducible rfl
          try simp only [Act.put, List.setIfInBounds_toArray, List.set_cons_zero, List.set_cons_succ]
          refine wpAnyH_take (i := 4) (oi := ⟨_, _, _, _, _, _⟩) (v := ?_) rfl (by kernel_rfl) (by kernel_rfl) (by kernel_rfl) (fun _ _ _ h => h) (Or.inl ⟨by rfl, ?_⟩) (by assumption) ?_
          rotate_left
          · (intro w hSw; (try dsimp only at hSw); go_simp)
            try with_reducible rfl
          try simp only [Act.put, List.setIfInBounds_toArray, List.set_cons_zero, List.set_cons_succ]
          refine wpAnyH_take (i := 5) (oi := ⟨_, _, _, _, _, _⟩) (v := ?_) rfl (by kernel_rfl) (by kernel_rfl) (by kernel_rfl) (fun _ _ _ h => h) (Or.inl ⟨by rfl, ?_⟩) (by assumption) ?_
          rotate_left
          · (intro w hSw; (try dsimp only at hSw); go_simp)
            try with_reducible rfl
          try simp only [Act.put, List.setIfInBounds_toArray, List.set_cons_zero, List.set_cons_succ]
          refine wpAnyH_ready (rs := [1]) (by kernel_rfl) (by simp) ?_
          refine AllReadyH.cons (o := ⟨_, _, _, _, _, _⟩) rfl (fun K hK => ?_) ?_
          rotate_left
          · exact AllReadyH.nil
          go_simp
          refine (all_c (HPC.out.keep ((Fr.refl No wc).drew)).tab (by have := HML.out; omega)).mono ?_
          rintro e w5 ⟨v5, zs, rfl, p5, a5, o5, f5, n5⟩
          rw [HPL.out.all p5 a5] at o5
          have HO5 := hid o5
          have HF5 := hid (show Fr No wc w5 from ((Fr.refl No wc).drew).fresh_no f5)
          clear p5 a5 o5 f5 n5
          try go_wp2_with fail
          refine hK.out _ _ ?_ (fun hHeld => ?_)
          · (try dsimp only)
            first | assumption | (refine KS.out _ ?_; with_reducible first | exact HF9.out | exact HF8.out | exact HF7.out | exact HF6.out | exact HF5.out | exact (Fr.refl _ wc).drew | exact Fr.refl _ wc)
          clear hK K
          try simp only [Act.put, List.setIfInBounds_toArray, List.set_cons_zero, List.set_cons_succ]
          refine wpAnyH_ready (rs := [6]) (by kernel_rfl) (by simp) ?_
          refine AllReadyH.cons (o := ⟨_, _, _, _, _, _⟩) rfl (fun K hK => ?_) ?_
          rotate_left
          · exact AllReadyH.nil
          go_simp
          refine (sameR_c _ _ _ ys HO5.out ((HPC.out.keep HF5.out).ref.own) HYL.out).mono ?_
          rintro e w6 ⟨rfl, f6⟩
          have HF6 := hid (HF5.out.fresh_no f6)
          clear f6
          try go_wp2_with fail
          refine hK.out _ _ ?_ (fun hHeld => ?_)
          · (try dsimp only)
            first | assumption | (refine KS.out _ ?_; with_reducible first | exact HF9.out | exact HF8.out | exact HF7.out | exact HF6.out | exact HF5.out | exact (Fr.refl _ wc).drew | exact Fr.refl _ wc)
          clear hK K
          try simp only [Act.put, List.setIfInBounds_toArray, List.set_cons_zero, List.set_cons_succ]
          refine wpAnyH_take (i := 7) (oi := ⟨_, _, _, _, _, _⟩) (v := ?_) rfl (by kernel_rfl) (by kernel_rfl) (by kernel_rfl) (fun _ _ _ h => h) (Or.inl ⟨by rfl, ?_⟩) (by assumption) ?_
          rotate_left
          · (intro w hSw; (try dsimp only at hSw); go_simp)
            try with_reducible rfl
          try simp only [Act.put, List.setIfInBounds_toArray, List.set_cons_zero, List.set_cons_succ]
          refine wpAnyH_take (i := 8) (oi := ⟨_, _, _, _, _, _⟩) (v := ?_) rfl (by kernel_rfl) (by kernel_rfl) (by kernel_rfl) (fun _ _ _ h => h) (Or.inl ⟨by rfl, ?_⟩) (by assumption) ?_
          rotate_left
          · (intro w hSw; (try dsimp only at hSw); go_simp)
            try with_reducible rfl
          try simp only [Act.put, List.setIfInBounds_toArray, List.set_cons_zero, List.set_cons_succ]
          refine wpAnyH_take (i := 9) (oi := ⟨_, _, _, _, _, _⟩) (v := ?_) rfl (by kernel_rfl) (by kernel_rfl) (by kernel_rfl) (fun _ _ _ h => h) (Or.inl ⟨by rfl, ?_⟩) (by assumption) ?_
          rotate_left
          · (intro w hSw; (try dsimp only at hSw); go_simp)
            try with_reducible rfl
          try simp only [Act.put, List.setIfInBounds_toArray, List.set_cons_zero, List.set_cons_succ]
          refine wpAnyH_take (i := 10) (oi := ⟨_, _, _, _, _, _⟩) (v := ?_) rfl (by kernel_rfl) (by kernel_rfl) (by kernel_rfl) (fun _ _ _ h => h) (Or.inl ⟨by rfl, ?_⟩) (by assumption) ?_
          rotate_left
          · (intro w hSw; (try dsimp only at hSw); go_simp)
            try with_reducible rfl
          try simp only [Act.put, List.setIfInBounds_toArray, List.set_cons_zero, List.set_cons_succ]
          refine wpAnyH_take (i := 11) (oi := ⟨_, _, _, _, _, _⟩) (v := ?_) rfl (by kernel_rfl) (by kernel_rfl) (by kernel_rfl) (fun _ _ _ h => h) (Or.inl ⟨by rfl, ?_⟩) (by assumption) ?_
          rotate_left
          · (intro w hSw; (try dsimp only at hSw); go_simp)
            try with_reducible rfl
          try simp only [Act.put, List.setIfInBounds_toArray, List.set_cons_zero, List.set_cons_succ]
          refine wpAnyH_take (i := 12) (oi := ⟨_, _, _, _, _, _⟩) (v := ?_) rfl (by kernel_rfl) (by kernel_rfl) (by kernel_rfl) (fun _ _ _ h => h) (Or.inl ⟨by rfl, ?_⟩) (by assumption) ?_
          rotate_left
          · (intro w hSw; (try dsimp only at hSw); go_simp)
            try with_reducible rfl
          try simp only [Act.put, List.setIfInBounds_toArray, List.set_cons_zero, List.set_cons_succ]
          refine wpAnyH_take (i := 13) (oi := ⟨_, _, _, _, _, _⟩) (v := ?_) rfl (by kernel_rfl) (by kernel_rfl) (by kernel_rfl) (fun _ _ _ h => h) (Or.inl ⟨by rfl, ?_⟩) (by assumption) ?_
          rotate_left
          · (intro w hSw; (try dsimp only at hSw); go_simp)
            try with_reducible rfl
          try simp only [Act.put, List.setIfInBounds_toArray, List.set_cons_zero, List.set_cons_succ]
          refine wpAnyH_take (i := 15) (oi := ⟨_, _, _, _, _, _⟩) (v := ?_) rfl (by kernel_rfl) (by kernel_rfl) (by kernel_rfl) (fun _ _ _ h => h) (Or.inl ⟨by rfl, ?_⟩) (by assumption) ?_
          rotate_left
          · (intro w hSw; (try dsimp only at hSw); go_simp)
            try with_reducible rfl
          try simp only [Act.put, List.setIfInBounds_toArray, List.set_cons_zero, List.set_cons_succ]
          refine wpAnyH_take (i := 16) (oi := ⟨_, _, _, _, _, _⟩) (v := ?_) rfl (by kernel_rfl) (by kernel_rfl) (by kernel_rfl) (fun _ _ _ h => h) (Or.inl ⟨by rfl, ?_⟩) (by assumption) ?_
          rotate_left
          · (intro w hSw; (try dsimp only at hSw); go_simp)
            try with_reducible rfl
          try simp only [Act.put, List.setIfInBounds_toArray, List.set_cons_zero, List.set_cons_succ]
          refine wpAnyH_take (i := 17) (oi := ⟨_, _, _, _, _, _⟩) (v := ?_) rfl (by kernel_rfl) (by kernel_rfl) (by kernel_rfl) (fun _ _ _ h => h) (Or.inl ⟨by rfl, ?_⟩) (by assumption) ?_
          rotate_left
          · (intro w hSw; (try dsimp only at hSw); go_simp)
            try with_reducible rfl
          try simp only [Act.put, List.setIfInBounds_toArray, List.set_cons_zero, List.set_cons_succ]
          refine wpAnyH_take (i := 18) (oi := ⟨_, _, _, _, _, _⟩) (v := ?_) rfl (by kernel_rfl) (by kernel_rfl) (by kernel_rfl) (fun _ _ _ h => h) (Or.inl ⟨by rfl, ?_⟩) (by assumption) ?_
          rotate_left
          · (intro w hSw; (try dsimp only at hSw); go_simp)
            try with_reducible rfl
          try simp only [Act.put, List.setIfInBounds_toArray, List.set_cons_zero, List.set_cons_succ]
          refine wpAnyH_take (i := 19) (oi := ⟨_, _, _, _, _, _⟩) (v := ?_) rfl (by kernel_rfl) (by kernel_rfl) (by kernel_rfl) (fun _ _ _ h => h) (Or.inl ⟨by rfl, ?_⟩) (by assumption) ?_
          rotate_left
          · (intro w hSw; (try dsimp only at hSw); go_simp)
            try with_reducible rfl
          try simp only [Act.put, List.setIfInBounds_toArray, List.set_cons_zero, List.set_cons_succ]
          refine wpAnyH_ready (rs := [14]) (by kernel_rfl) (by simp) ?_
          refine AllReadyH.cons (o := ⟨_, _, _, _, _, _⟩) rfl (fun K hK => ?_) ?_
          rotate_left
          · exact AllReadyH.nil
          go_simp
          refine (holders_c (HPC.out.keep HF6.out).tab ee tt HPL.out.key.tills (by have := HML.out; omega) HZS.out).mono ?_
          rintro e w7 ⟨v7, rfl, o7, f7, n7⟩
          rw [holders_eq HPL.out.perm N HPL.out.nodes] at o7
          have HO7 := hid o7
          have HF7 := hid (HF6.out.fresh_no f7)
          clear o7 f7 n7
          try go_wp2_with fail
          refine hK.out _ _ ?_ (fun hHeld => ?_)
          · (try dsimp only)
            first | assumption | (refine KS.out _ ?_; with_reducible first | exact HF9.out | exact HF8.out | exact HF7.out | exact HF6.out | exact HF5.out | exact (Fr.refl _ wc).drew | exact Fr.refl _ wc)
          clear hK K
          try simp only [Act.put, List.setIfInBounds_toArray, List.set_cons_zero, List.set_cons_succ]
          refine wpAnyH_ready (rs := [20]) (by kernel_rfl) (by simp) ?_
          refine AllReadyH.cons (o := ⟨_, _, _, _, _, _⟩) rfl (fun K hK => ?_) ?_
          rotate_left
          · exact AllReadyH.nil
          go_simp
          refine (rHolders_c (HPC.out.keep HF7.out).ref HN16.out HYL.out HZS.out HPL.out.tills ee tt).mono ?_
          rintro e w8 ⟨v8, rfl, o8, f8⟩
          have HO8 := hid o8
          have HO7 := hid (HO7.out.keep f8 (fun x _ => not_no x))
          have HF8 := hid (HF7.out.fresh_no f8)
          clear o8 f8
          try go_wp2_with fail
          refine hK.out _ _ ?_ (fun hHeld => ?_)
          · (try dsimp only)
            first | assumption | (refine KS.out _ ?_; with_reducible first | exact HF9.out | exact HF8.out | exact HF7.out | exact HF6.out | exact HF5.out | exact (Fr.refl _ wc).drew | exact Fr.refl _ wc)
          clear hK K
          try simp only [Act.put, List.setIfInBounds_toArray, List.set_cons_zero, List.set_cons_succ]
          refine wpAnyH_ready (rs := [21]) (by kernel_rfl) (by simp) ?_
          refine AllReadyH.cons (o := ⟨_, _, _, _, _, _⟩) rfl (fun K hK => ?_) ?_
          rotate_left
          · exact AllReadyH.nil
          go_simp
          refine (sameI_c _ _ _ (rHold ee z2 tt ys N) (rHold ee z2 tt ys N) HO7.out.rd HO8.out.rd (by have h1 := rHold_len ee z2 tt ys N; have h2 := HN16.out; omega)).mono ?_
          rintro e w9 ⟨he, f9⟩
          replace he : e = .returned (.bool true) := he.trans (by rw [decide_eq_true rfl])
          subst he
          have HF9 := hid (HF8.out.fresh_no f9)
          clear f9
          try go_wp2_with fail
          refine hK.out _ _ ?_ (fun hHeld => ?_)
          · (try dsimp only)
            first | assumption | (refine KS.out _ ?_; with_reducible first | exact HF9.out | exact HF8.out | exact HF7.out | exact HF6.out | exact HF5.out | exact (Fr.refl _ wc).drew | exact Fr.refl _ wc)
          clear hK K
          try simp only [Act.put, List.setIfInBounds_toArray, List.set_cons_zero, List.set_cons_succ]
          refine wpAnyH_take (i := 22) (oi := ⟨_, _, _, _, _, _⟩) (v := ?_) rfl (by kernel_rfl) (by kernel_rfl) (by kernel_rfl) (fun _ _ _ h => h) (Or.inl ⟨by rfl, ?_⟩) (by assumption) ?_
          rotate_left
          · (intro w hSw; (try dsimp only at hSw); go_simp)
            try with_reducible rfl
          try simp only [Act.put, List.setIfInBounds_toArray, List.set_cons_zero, List.set_cons_succ]
          refine wpAnyH_take (i := 23) (oi := ⟨_, _, _, _, _, _⟩) (v := ?_) rfl (by kernel_rfl) (by kernel_rfl) (by kernel_rfl) (fun _ _ _ h => h) (Or.inl ⟨by rfl, ?_⟩) (by assumption) ?_
          rotate_left
          · (intro w hSw; (try dsimp only at hSw); go_simp)
            try with_reducible rfl
          try simp only [Act.put, List.setIfInBounds_toArray, List.set_cons_zero, List.set_cons_succ]
          refine wpAnyH_done (by kernel_rfl) ?_ _
          have HP9 := hid (HPC.out.keep HF9.out)
          clear KS HF5 HF6 HF7 HF8 HF9 HO5 HO7 HO8 HPC HXC
          go_wp2_with fail
          go_roundg (60 - (i + 1))
          case measure => have := HQ.out; omega
          case rel => exact ⟨i + 1, .slice Av ys.length cv, ms, ys, by go_num, by omega, rfl, HMI, HP9, HPL⟩
      · rcases (show ¬ (i : Int) < os.length ∨ ((i : Int) < os.length ∧ ¬ (i : Int) < 60) by omega) with d4 | ⟨d4, d5⟩
        all_goals
          clear d1
          go_wp2_with fail
          refine (awake_c _).mono ?_
          rintro e w7 ⟨rfl, f7⟩
          have HF7 := hid (HPR.out.fr.fresh_no f7)
          go_wp2_with fail
          go_ret
          exact ⟨rfl, HF7.out⟩
  · have HR := hid hr
    clear hr
    go_enter Try.func8, Try.ntmps8
    go_wp2_with fail
    refine (newBad_c _ z0 z1 z2 HR.out).mono ?_
    rintro e w1 ⟨rfl, rfl⟩
    go_wp2_with fail
    refine (rnewBad_c _ z0 z1 z2 HR.out).mono ?_
    rintro e w1 ⟨rfl, rfl⟩
    go_wp2_with fail
    refine (awake_c _).mono ?_
    rintro e w7 ⟨rfl, f7⟩
    have HF7 := hid (((Fr.refl No w).alloc (.cells #[.int .i64 z0, .int .i64 z1, .int .i64 z2] 49)).fresh_no f7)
    go_wp2_with fail
    go_ret
    exact ⟨rfl, HF7.out⟩
end Go.Proofs.Ythcebkbedfaoeaa
