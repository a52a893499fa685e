import Derived.Test.YthcebkbedfaoeaaBoundB
import Derived.Deep.DeepCutAuto
import Derived.Deep.DrawnRows
/-! LeaseBound. -/
namespace Go.Proofs.Ythcebkbedfaoeaa
open Go.RowKit
set_option linter.unusedVariables false
set_option linter.unusedSimpArgs false
attribute [local go_sem ↓] Go.wp_at_zero Go.wp_at_succ

set_option maxRecDepth 100000 in
set_option maxHeartbeats 4000000 in
theorem leaseBound_c (y : Value) (os : List Op6) (q0 q1 : Nat) (hq0 : q0 ≤ 255) (hq1 : q1 ≤ 255) (r0 r1 r2 : Int) (hr0 : Is64 r0) (hr1 : Is64 r1) (hr2 : Is64 r2) (w : World) (hy : RdP w y os) :
    Calls Try.prog 5 #[y, .agg #[.int .u8 q0, .int .u8 q1], .agg #[.int .i64 r0, .int .i64 r1, .int .i64 r2]] w (RetT w) := by
  have HY := hid hy
  obtain ⟨A1, c1, rfl, hc1, _⟩ := hy.1
  clear hy
  have HR0 := hid hr0
  have HR1 := hid hr1
  have HR2 := hid hr2
  have HB5 := hid (show Blk ((w.alloc (.cells #[.int .u8 q0, .int .u8 q1] 48)).alloc (.cells #[.int .i64 r0, .int .i64 r1, .int .i64 r2] 49)) (w.heap.size + 1) 49 #[.int .i64 r0, .int .i64 r1, .int .i64 r2] from by
    have := Blk.new (w.alloc (.cells #[.int .u8 q0, .int .u8 q1] 48)) 49 #[.int .i64 r0, .int .i64 r1, .int .i64 r2]
    rwa [show (w.alloc (.cells #[.int .u8 q0, .int .u8 q1] 48)).heap.size = w.heap.size + 1 by simp] at this)
  clear hr0 hr1 hr2
  go_enter Try.func5, Try.ntmps5
  go_wp2_with fail
  obtain ⟨s, hs⟩ : ∃ s : Nat, (q1 : Int) % 21 = s := ⟨q1 % 21, by omega⟩
  obtain ⟨l, hl⟩ : ∃ l : Nat, (1 : Int) + (q0 : Int) % 50 = l := ⟨1 + q0 % 50, by omega⟩
  have s2 : s ≤ 20 := by omega
  have l1 : 1 ≤ l := by omega
  have l2 : l ≤ 50 := by omega
  rw [hs, hl]
  clear hs hl
  refine (new_c _ 4 l s (by decide) (by decide) (by omega) (by omega) (by omega) (by omega)).mono ?_
  rintro e w1 ⟨g, b, rfl, t1, f1, sg, sb⟩
  have F01 : Fr No w w1 := (((Fr.refl No w).alloc _).alloc _).fresh_no f1
  have HF1 := hid F01
  have HT1 := hid t1
  have HB1 := hid (HB5.out.keep f1 (not_no _))
  have HSB := hid (show w.heap.size + 2 ≤ b by simpa using sb)
  have HSG := hid (show w.heap.size + 2 ≤ g by simpa using sg)
  have HSZ := hid (show b < w1.heap.size ∧ g < w1.heap.size from ⟨t1.map.lt, t1.blk.lt⟩)
  clear t1 f1 sg sb F01 HB5
  go_wp2_with fail
  have HW1 := hid (show w.heap.size ≤ w1.heap.size from HF1.out.size)
  go_loopg [10, 11, 12] 40 (fun q v10 v11 v12 w' => ∃ (i : Nat) (tick : Int) (G : List Ls) (ms : List (K3 × Ls)), v10 = .int .i64 tick ∧ v12 = .int .i64 i ∧ i ≤ 40 ∧ q = 40 - i ∧ 0 ≤ tick ∧ tick ≤ 8 * i ∧ Hid (G.length ≤ i) ∧ Hid (ms.length ≤ i) ∧ Hid (Bd w w1 w' g b l s v11 G ms tick r0 r1 r2))
  case atStart => exact ⟨0, 0, [], [], rfl, rfl, by omega, rfl, by omega, by omega, Nat.le_refl _, Nat.le_refl _, ⟨HT1.out, HF1.out, Nat.le_refl _, HB1.out, Own.nil _ _ _, fun x hx => absurd hx Of_none, ⟨by simp, by simp, by simp, by simp, by simp⟩⟩⟩
  case round =>
    clear HT1 HF1 HB1
    obtain ⟨i, tick, G, ms, rfl, rfl, hi, hq, ht1, ht2, HGL, HML, HBD⟩ := hrel
    have HQ := hid hq
    clear hq
    by_cases d1 : i < os.length ∧ i < 40
    · obtain ⟨d1, d2⟩ := d1
      have d3 : (i : Int) < os.length := by omega
      have d4 : (i : Int) < 40 := by omega
      obtain ⟨bb, off, dd, nn, vv, ff, ee, tt, rfl, hz, k0, k1, k2, k3, k4, k5, hok⟩ := (HY.out.keep HBD.out.fr).at_ d1
      have HOK := hid hok
      have HKS := hid (And.intro k1 (And.intro k2 (And.intro k3 k4)))
      clear hok hz k1 k2 k3 k4
      have m1 := Int.emod_nonneg tt (show (9 : Int) ≠ 0 by omega)
      have m2 := Int.emod_lt_of_pos tt (show (0 : Int) < 9 by omega)
      go_wp2_with fail
      refine (pick_c tt 9 HOK.out.2.2.2.2.2.1 HOK.out.2.2.2.2.2.2 (by omega) (by omega) _).mono ?_
      rintro e wx ⟨rfl, rfl⟩
      generalize tt % 9 = dt at m1 m2 ⊢
      have m3 : 0 ≤ tick + dt := by omega
      have m4 : tick + dt ≤ 8 * ((i + 1 : Nat) : Int) := by omega
      have HD2 := hid (HBD.out.ticked (tick' := tick + dt) (by omega))
      clear HBD k5
      go_wp2_with fail
      refine (pick_c dd 4 HOK.out.1.1 HOK.out.1.2 (by omega) (by omega) _).mono ?_
      rintro e V ⟨rfl, rfl⟩
      by_cases c2 : dd % 4 = 2
      · rw [c2]
        clear c2 k0
        go_wp2_with fail
        have HML2 := hid (show ms.length ≤ 1000000 by have := HML.out; omega)
        refine (expire_c HD2.out.tab (tick + dt) HD2.out.inv.tills HML2.out (by omega)).mono ?_
        rintro e w2 ⟨rfl, t2, f2⟩
        have HD3 := hid (HD2.out.turn HSB.out HSZ.out.1 t2 f2 HD2.out.inv.expire)
        have HML3 := hid (Nat.le_trans (List.length_filter_le (fun p : K3 × Ls => !goesE s (tick + dt) p.2) ms) (Nat.le_succ_of_le HML.out))
        clear t2 f2 HD2
        generalize ms.filter (fun p : K3 × Ls => !goesE s (tick + dt) p.2) = ms2 at HD3 HML3 ⊢
        go_wp2_with fail
        go_roundg (40 - (i + 1))
        case measure => have := HQ.out; omega
        case rel => exact ⟨i + 1, tick + dt, G, ms2, by go_num, by go_num, by omega, rfl, m3, m4, Nat.le_succ_of_le HGL.out, HML3, HD3⟩
      · have c3 : (dd % 4 == 2) = false := by rw [beq_eq_false_iff_ne]; exact c2
        generalize dd % 4 = d4' at c2 c3 ⊢
        clear k0
        have b1 := Int.emod_nonneg nn (show (4 : Int) ≠ 0 by omega)
        have b2 := Int.emod_lt_of_pos nn (show (0 : Int) < 4 by omega)
        have b3 := Int.emod_nonneg vv (show (2 : Int) ≠ 0 by omega)
        have b4 := Int.emod_lt_of_pos vv (show (0 : Int) < 2 by omega)
        have b5 := Int.emod_nonneg ff (show (2 : Int) ≠ 0 by omega)
        have b6 := Int.emod_lt_of_pos ff (show (0 : Int) < 2 by omega)
        have b7 := Int.emod_nonneg ee (show (6 : Int) ≠ 0 by omega)
        have b8 := Int.emod_lt_of_pos ee (show (0 : Int) < 6 by omega)
        have HPK := hid (show ∀ z m : Int, ((z = nn ∧ m = 4) ∨ (z = vv ∧ m = 2) ∨ (z = ff ∧ m = 2) ∨ (z = ee ∧ m = 6)) → ∀ w', Calls Try.prog 17 #[.int .i64 z, .int .i64 m] w' fun en w'' => en = .returned (.int .i64 (z % m)) ∧ w'' = w' from fun z m hz w' => by
          rcases hz with ⟨rfl, rfl⟩ | ⟨rfl, rfl⟩ | ⟨rfl, rfl⟩ | ⟨rfl, rfl⟩
          · exact pick_c _ _ HOK.out.2.1.1 HOK.out.2.1.2 (by omega) (by omega) w'
          · exact pick_c _ _ HOK.out.2.2.1.1 HOK.out.2.2.1.2 (by omega) (by omega) w'
          · exact pick_c _ _ HOK.out.2.2.2.1.1 HOK.out.2.2.2.1.2 (by omega) (by omega) w'
          · exact pick_c _ _ HOK.out.2.2.2.2.1.1 HOK.out.2.2.2.2.1.2 (by omega) (by omega) w')
        have hwt := HD2.out.inv.was (nn % 4, vv % 2, ff % 2)
        have HBV := hid (show b < V.heap.size from HD2.out.tab.map.lt)
        have HBN := hid (show w.heap.size + 2 ≤ b from HSB.out)
        have KS := hid (show ∀ w', Fr (fun x => x = b) V w' → w'.cell? ⟨bb, off + i * 6 + 1, none⟩ = some (.int .i64 nn) ∧ w'.cell? ⟨bb, off + i * 6 + 2, none⟩ = some (.int .i64 vv) ∧ w'.cell? ⟨bb, off + i * 6 + 3, none⟩ = some (.int .i64 ff) ∧ w'.cell? ⟨bb, off + i * 6 + 4, none⟩ = some (.int .i64 ee) from fun w' hf => by
          have hlt : bb < w.heap.size := by
            obtain ⟨_, _, hv, _, _, hr⟩ := HY.out.1
            obtain ⟨b', o', hA, hb', _⟩ := hr (by omega)
            injection hv with hv _ _
            rw [← hv] at hA
            injection hA with hA
            injection hA with hA _ _
            omega
          have hfz : Fr No w V := HD2.out.fr
          have hcell : ∀ o, w'.cell? ⟨bb, o, none⟩ = V.cell? ⟨bb, o, none⟩ := fun o => hf.cell (Nat.lt_of_lt_of_le hlt hfz.size) (fun e => by have := HBN.out; omega) o
          obtain ⟨z1, z2, z3, z4⟩ := HKS.out
          exact ⟨(hcell _).trans z1, (hcell _).trans z2, (hcell _).trans z3, (hcell _).trans z4⟩)
        by_cases hw : (wasOf (nn % 4, vv % 2, ff % 2) ms).epoch ≤ ee % 6
        · obtain ⟨tl, htl⟩ : ∃ tl, max (tick + dt + l) (wasOf (nn % 4, vv % 2, ff % 2) ms).till = tl := ⟨_, rfl⟩
          have GR := hid (show ∀ w', Fr No V w' → Calls Try.prog 9 #[.pointer (some ⟨g, 0, none⟩), .int .i64 (nn % 4), .int .i64 (vv % 2), .int .i64 (ff % 2), .int .i64 (ee % 6), .int .i64 (tick + dt)] w' fun e w'' =>
              e = .returned (.tuple #[.agg #[.int .i64 (nn % 4), .int .i64 (vv % 2), .int .i64 (ff % 2), .int .i64 (ee % 6), .int .i64 tl], .int .i64 0]) ∧ IsTab w'' g b 4 l s (putT (nn % 4, vv % 2, ff % 2) ⟨nn % 4, vv % 2, ff % 2, ee % 6, tl⟩ ms) ∧ Fr (fun x => x = b) w' w'' from fun w' hf => by
            have h := grant_ok (HD2.out.tab.keep hf) (nn % 4) (vv % 2) (ff % 2) (ee % 6) (tick + dt) ⟨b1, by omega⟩ ⟨b3, by omega⟩ ⟨b5, by omega⟩ ⟨b7, by omega⟩ ⟨m3, by omega⟩ ⟨by omega, by omega⟩ hw
            rw [htl] at h
            exact h)
          have HI3 := hid (show Inv (putT (nn % 4, vv % 2, ff % 2) ⟨nn % 4, vv % 2, ff % 2, ee % 6, tl⟩ ms) (G ++ [⟨nn % 4, vv % 2, ff % 2, ee % 6, tl⟩]) s (tick + dt) from HD2.out.inv.grant ⟨nn % 4, vv % 2, ff % 2, ee % 6, tl⟩ ⟨b1, b2, by show 0 ≤ tl; omega, by show tl ≤ 10000; omega⟩ hw (show (wasOf (nn % 4, vv % 2, ff % 2) ms).till ≤ tl by omega))
          clear hw htl hwt b1 b2 b3 b4 b5 b6 b7 b8 c2
          go_upto_region 13 with fail
          go_cut [13, 14] (fun s13 s14 wq => ∃ xb : Nat, s13 = .pointer (some ⟨xb, 0, none⟩) ∧ s14 = .int .i64 0 ∧ Hid (Gr V wq g b xb 4 l s (putT (nn % 4, vv % 2, ff % 2) ⟨nn % 4, vv % 2, ff % 2, ee % 6, tl⟩ ms) ⟨nn % 4, vv % 2, ff % 2, ee % 6, tl⟩))
          case first =>
            go_region_held_law (fun w' => w'.cell? ⟨bb, off + i * 6 + 1, none⟩ = some (.int .i64 nn) ∧ w'.cell? ⟨bb, off + i * 6 + 2, none⟩ = some (.int .i64 vv) ∧ w'.cell? ⟨bb, off + i * 6 + 3, none⟩ = some (.int .i64 ff) ∧ w'.cell? ⟨bb, off + i * 6 + 4, none⟩ = some (.int .i64 ee))
              (((refine KS.out _ ?_; with_reducible first | exact HK5.out | exact HK5.out.alloc _ | exact HK5.out.fresh5 (Nat.le_refl _) _ _ _ _ _ | exact (Fr.refl _ V).drew | exact ((Fr.refl _ V).alloc _).drew | exact ((Fr.refl _ V).drew).alloc _ | exact Fr.refl _ V | exact (Fr.refl _ V).alloc _)))
              (first
                | (go_at_call 17; refine (HPK.out _ _ (by first | exact .inl ⟨rfl, rfl⟩ | exact .inr (.inl ⟨rfl, rfl⟩) | exact .inr (.inr (.inl ⟨rfl, rfl⟩)) | exact .inr (.inr (.inr ⟨rfl, rfl⟩))) _).mono ?_; rintro e wq ⟨rfl, rfl⟩)
                | (go_at_call 9
                   refine (GR.out _ (by first | exact (Fr.refl _ V).drew | exact ((Fr.refl _ V).alloc _).drew)).mono ?_
                   rintro e w5 ⟨rfl, t5, f5⟩
                   have HT5 := hid t5
                   have HK5 := hid (show Fr (fun x => x = b) V w5 from Fr.trans (S := fun x => x = b) (by first | exact (Fr.refl _ V).drew | exact ((Fr.refl _ V).alloc _).drew) f5 (fun x _ h => h))
                   first
                     | (have HBX := hid (show Blk w5 V.heap.size 30 #[.int .i64 0, .int .i64 0, .int .i64 0, .int .i64 0, .int .i64 0] from by with_reducible exact Blk.keep (Blk.drew (Blk.new V 30 #[.int .i64 0, .int .i64 0, .int .i64 0, .int .i64 0, .int .i64 0])) f5 (fun e => absurd e (Nat.ne_of_gt HBV.out)))
                        have m0 := HBX.out.cell 0
                        have m1 := HBX.out.cell 1
                        have m2 := HBX.out.cell 2
                        have m3 := HBX.out.cell 3
                        have m4 := HBX.out.cell 4
                        have mf := HBX.out.frozen)
                     | skip
                   clear t5 f5))
            all_goals
              go_wp2_with fail
              go_meet
              first
                | (with_reducible exact ⟨_, rfl, rfl, hid (Gr.set HT5.out HK5.out HBX.out (Nat.le_refl _) HBV.out)⟩)
                | (with_reducible exact ⟨_, rfl, rfl, hid (Gr.mk_ HT5.out HK5.out)⟩)
                | fail
          case rest =>
            clear GR HPK KS HKS HOK
            obtain ⟨xb, rfl, rfl, HG⟩ := hcut
            generalize nn % 4 = nn at HG HI3
            generalize vv % 2 = vv at HG HI3
            generalize ff % 2 = ff at HG HI3
            generalize ee % 6 = ee at HG HI3
            have HX := hid (show Blk wc xb 30 #[.int .i64 nn, .int .i64 vv, .int .i64 ff, .int .i64 ee, .int .i64 tl] from HG.out.box)
            have HD3 := hid (HD2.out.turn (ms' := putT (nn, vv, ff) ⟨nn, vv, ff, ee, tl⟩ ms) (tick' := tick + dt) HSB.out HSZ.out.1 HG.out.tab HG.out.fr)
            have x0 := HX.out.cell 0
            have x1 := HX.out.cell 1
            have x2 := HX.out.cell 2
            have x3 := HX.out.cell 3
            have x4 := HX.out.cell 4
            have HPL := hid (putT_len (nn, vv, ff) ⟨nn, vv, ff, ee, tl⟩ ms)
            have FA := hid ((Fr.refl No wc).alloc (.cells (Ls.mk nn vv ff ee tl).cells 30))
            have HFR := hid (HD2.out.fr.fresh HG.out.fr (fun x e => by rw [e]; have := HSB.out; omega))
            have HLT := hid (Nat.le_trans HD2.out.later (Nat.le_trans HG.out.fr.size FA.out.size))
            have HWH := hid ((HD2.out.what.keep HG.out.fr (fun e => by have := HSB.out; omega)).keep FA.out (not_no _))
            have HRW := hid ((HD2.out.row.keep HG.out.fr (fun x hx e => by have h1 := HD2.out.new x hx; have h2 := HSZ.out; omega)).keep FA.out (fun x _ => not_no x))
            clear HD3
            go_wp2_with (at_builtin; go_loud (refine wpl_app _ rfl (.tmp 98) (.tmp 100) _ rfl 30 zeroL 5 40 Try.underlying38 infoL (by rfl) _ G.length (lcells G) rfl HRW.out _ 1 (Ls.mk nn vv ff ee tl).cells.toList rfl (Rd.lease _ _) (lc_one _) (by have := HGL.out; unfold maxLen; omega) (by have := HGL.out; omega) ?_; intro v9 w9 O9 F9 G9; obtain ⟨A9, c9, rfl, _, _⟩ := O9.slice; have HD9 := hid (Bd.append (HG.out.tab.keep FA.out) (HFR.out.fresh_no FA.out) HLT.out HWH.out HRW.out HD2.out.new HSZ.out.1 HW1.out O9 F9 G9 HI3.out); clear O9 F9 G9))
            clear x0 x1 x2 x3 x4
            go_roundg (40 - (i + 1))
            case measure => have := HQ.out; omega
            case rel => exact ⟨i + 1, tick + dt, _, _, by go_num, by go_num, by omega, rfl, m3, m4, hid (by have := HGL.out; rw [List.length_append, List.length_singleton]; omega), hid (by have h1 := HPL.out; have h2 := HML.out; omega), HD9⟩
        · have hw2 : ee % 6 < (wasOf (nn % 4, vv % 2, ff % 2) ms).epoch := by omega
          have GR := hid (show ∀ w', Fr No V w' → Calls Try.prog 9 #[.pointer (some ⟨g, 0, none⟩), .int .i64 (nn % 4), .int .i64 (vv % 2), .int .i64 (ff % 2), .int .i64 (ee % 6), .int .i64 (tick + dt)] w' fun e w'' =>
              e = .returned (.tuple #[.agg #[.int .i64 0, .int .i64 0, .int .i64 0, .int .i64 0, .int .i64 0], .int .i64 151]) ∧ IsTab w'' g b 4 l s ms ∧ Fr (fun x => x = b) w' w'' from fun w' hf => by
            refine (grant_epoch (HD2.out.tab.keep hf) (nn % 4) (vv % 2) (ff % 2) (ee % 6) (tick + dt) ⟨b1, by omega⟩ ⟨b3, by omega⟩ ⟨b5, by omega⟩ ⟨b7, by omega⟩ ⟨m3, by omega⟩ hw2).mono ?_
            rintro e w'' ⟨h1, h2⟩
            exact ⟨h1, (HD2.out.tab.keep hf).keep h2, h2.mono (fun x _ h => absurd h (not_no x))⟩)
          clear hw hw2 hwt b1 b2 b3 b4 b5 b6 b7 b8 c2
          go_upto_region 13 with fail
          go_cut [13, 14] (fun s13 s14 wq => ∃ xb : Nat, s13 = .pointer (some ⟨xb, 0, none⟩) ∧ s14 = .int .i64 151 ∧ Hid (Gr V wq g b xb 4 l s ms ⟨0, 0, 0, 0, 0⟩))
          case first =>
            go_region_held_law (fun w' => w'.cell? ⟨bb, off + i * 6 + 1, none⟩ = some (.int .i64 nn) ∧ w'.cell? ⟨bb, off + i * 6 + 2, none⟩ = some (.int .i64 vv) ∧ w'.cell? ⟨bb, off + i * 6 + 3, none⟩ = some (.int .i64 ff) ∧ w'.cell? ⟨bb, off + i * 6 + 4, none⟩ = some (.int .i64 ee))
              (((refine KS.out _ ?_; with_reducible first | exact HK5.out | exact HK5.out.alloc _ | exact HK5.out.fresh5 (Nat.le_refl _) _ _ _ _ _ | exact (Fr.refl _ V).drew | exact ((Fr.refl _ V).alloc _).drew | exact ((Fr.refl _ V).drew).alloc _ | exact Fr.refl _ V | exact (Fr.refl _ V).alloc _)))
              (first
                | (go_at_call 17; refine (HPK.out _ _ (by first | exact .inl ⟨rfl, rfl⟩ | exact .inr (.inl ⟨rfl, rfl⟩) | exact .inr (.inr (.inl ⟨rfl, rfl⟩)) | exact .inr (.inr (.inr ⟨rfl, rfl⟩))) _).mono ?_; rintro e wq ⟨rfl, rfl⟩)
                | (go_at_call 9
                   refine (GR.out _ (by first | exact (Fr.refl _ V).drew | exact ((Fr.refl _ V).alloc _).drew)).mono ?_
                   rintro e w5 ⟨rfl, t5, f5⟩
                   have HT5 := hid t5
                   have HK5 := hid (show Fr (fun x => x = b) V w5 from Fr.trans (S := fun x => x = b) (by first | exact (Fr.refl _ V).drew | exact ((Fr.refl _ V).alloc _).drew) f5 (fun x _ h => h))
                   first
                     | (have HBX := hid (show Blk w5 V.heap.size 30 #[.int .i64 0, .int .i64 0, .int .i64 0, .int .i64 0, .int .i64 0] from by with_reducible exact Blk.keep (Blk.drew (Blk.new V 30 #[.int .i64 0, .int .i64 0, .int .i64 0, .int .i64 0, .int .i64 0])) f5 (fun e => absurd e (Nat.ne_of_gt HBV.out)))
                        have m0 := HBX.out.cell 0
                        have m1 := HBX.out.cell 1
                        have m2 := HBX.out.cell 2
                        have m3 := HBX.out.cell 3
                        have m4 := HBX.out.cell 4
                        have mf := HBX.out.frozen)
                     | skip
                   clear t5 f5))
            all_goals
              go_wp2_with fail
              go_meet
              first
                | (with_reducible exact ⟨_, rfl, rfl, hid (Gr.set HT5.out HK5.out HBX.out (Nat.le_refl _) HBV.out)⟩)
                | (with_reducible exact ⟨_, rfl, rfl, hid (Gr.mk_ HT5.out HK5.out)⟩)
                | fail
          case rest =>
            clear GR HPK KS HKS HOK
            obtain ⟨xb, rfl, rfl, HG⟩ := hcut
            have HD3 := hid (HD2.out.turn HSB.out HSZ.out.1 HG.out.tab HG.out.fr HD2.out.inv)
            go_wp2_with fail
            go_roundg (40 - (i + 1))
            case measure => have := HQ.out; omega
            case rel => exact ⟨i + 1, tick + dt, _, _, by go_num, by go_num, by omega, rfl, m3, m4, hid (Nat.le_succ_of_le HGL.out), hid (Nat.le_succ_of_le HML.out), HD3⟩
    · have hcs : ¬ (i : Int) < os.length ∨ ((i : Int) < os.length ∧ ¬ (i : Int) < 40) := by omega
      clear d1
      have ht3 : tick ≤ 320 := by omega
      have z0 := HBD.out.what.cell 0
      have z1 := HBD.out.what.cell 1
      have z2 := HBD.out.what.cell 2
      obtain ⟨Ag, cg, hvg, hcg, hcm⟩ := HBD.out.row.slice
      subst hvg
      have hgl : G.length ≤ 40 := by have := HGL.out; omega
      have HSL := hid (show (0 : Int) ≤ s ∧ (s : Int) ≤ 1048576 by omega)
      rcases hcs with d3 | ⟨d3, d4⟩
      all_goals
        go_wp2_with fail
        refine (pick_c r0 99 HR0.out.1 HR0.out.2 (by omega) (by omega) _).mono ?_
        rintro e wx ⟨rfl, rfl⟩
        have p0 := Int.emod_nonneg r0 (show (99 : Int) ≠ 0 by omega)
        have p1 := Int.emod_lt_of_pos r0 (show (0 : Int) < 99 by omega)
        generalize r0 % 99 = dq at p0 p1 ⊢
        have HD2 := hid (HBD.out.ticked (tick' := tick + dq) (by omega))
        go_wp2_with fail
        refine (pick_c r1 8 HR1.out.1 HR1.out.2 (by omega) (by omega) _).mono ?_
        rintro e wx ⟨rfl, rfl⟩
        have p2 := Int.emod_nonneg r1 (show (8 : Int) ≠ 0 by omega)
        have p3 := Int.emod_lt_of_pos r1 (show (0 : Int) < 8 by omega)
        generalize r1 % 8 = ep at p2 p3 ⊢
        go_wp2_with fail
        refine (pick_c r2 (2 * (s : Int) + 1) HR2.out.1 HR2.out.2 (by omega) (by omega) _).mono ?_
        rintro e wx ⟨rfl, rfl⟩
        have p4 := Int.emod_nonneg r2 (show (2 * (s : Int) + 1) ≠ 0 by omega)
        have p5 := Int.emod_lt_of_pos r2 (show (0 : Int) < 2 * (s : Int) + 1 by omega)
        generalize r2 % (2 * (s : Int) + 1) = p at p4 p5 ⊢
        have HX := hid (Blk.new wx 50 #[.bool false, .bool false, .bool false, .bool false])
        have HD3 := hid (HD2.out.keep ((Fr.refl No wx).alloc (.cells #[.bool false, .bool false, .bool false, .bool false] 50)))
        clear HBD z0 z1 z2
        go_wp2_with fail
        refine (holders_c HD3.out.tab ep (tick + dq) HD3.out.inv.tills (by have := HML.out; omega) HSL.out).mono ?_
        rintro e w2 ⟨vh, rfl, oh, fh, nh⟩
        obtain ⟨zs, hzs⟩ : ∃ zs, holdersL ep s (tick + dq) ms = zs := ⟨_, rfl⟩
        rw [hzs] at oh
        have HZ := hid (show ∀ z ∈ zs, 0 ≤ z ∧ z < 4 from fun z hz => nodes_bnd HD3.out.inv ep (tick + dq) (hzs ▸ hz))
        have HZM := hid (show ∀ z, z ∉ zs → z ∉ nodesOf ep s (tick + dq) ms from fun z hz h => hz (hzs ▸ (mem_holders ep s (tick + dq) ms z).2 h))
        clear hzs
        obtain ⟨Ah, ch, rfl, hzc, hzm⟩ := oh.slice
        have hzl : zs.length ≤ 9223372036854775807 := by unfold maxLen at hzm; omega
        have HOH := hid oh
        have HX2 := hid (HX.out.keep fh (not_no _))
        have HD4 := hid (HD3.out.keep fh)
        have HWX := hid (show w.heap.size ≤ wx.heap.size from HD2.out.fr.size)
        clear oh fh nh hzc hzm HX HD3 HD2
        generalize wx.heap.size = hb at HX2 HWX ⊢
        go_wp2_with fail
        go_loopg [128] zs.length (fun q v128 w' => ∃ j : Nat, v128 = .int .i64 j ∧ j ≤ zs.length ∧ q = zs.length - j ∧ Hid (Blk w' hb 50 (heldBy (zs.take j))) ∧ Hid (Own 3 1 w' (.slice Ah zs.length ch) zs.length (ints zs)) ∧ Hid (Bd w w1 w' g b l s (.slice Ag G.length cg) G ms (tick + dq) r0 r1 r2))
        case atStart => exact ⟨0, rfl, Nat.zero_le _, rfl, HX2, HOH, HD4⟩
        case round =>
          clear HX2 HOH HD4
          obtain ⟨j, rfl, hj, hq, HX, HOH, HBD⟩ := hrel
          have HQ := hid hq
          clear hq
          by_cases d1 : j < zs.length
          · have d5 : (j : Int) < zs.length := by omega
            obtain ⟨bz, oz, z, rfl, hz, kz⟩ := HOH.out.rd.int_at d1
            obtain ⟨hz0, hz4⟩ := HZ.out z (List.mem_of_getElem? hz)
            obtain ⟨nz, rfl⟩ := Int.eq_ofNat_of_zero_le hz0
            have hn4 : nz < 4 := by omega
            have hc := HX.out.cell nz
            rw [heldBy_get _ hn4] at hc
            have hfz := HX.out.frozen
            have HX3 := hid (show Blk (wr.setCell ⟨hb, nz, none⟩ (.bool true)) hb 50 (heldBy (zs.take (j + 1))) from by
              have h := HX.out.set_ nz (.bool true)
              rw [heldBy_set _ hn4] at h
              rw [List.take_add_one, hz]
              exact h)
            have FS := hid (show Fr (fun x => x = hb) wr (wr.setCell ⟨hb, nz, none⟩ (.bool true)) from (Fr.refl (fun x => x = hb) wr).setCell (p := ⟨hb, nz, none⟩) (fun _ => rfl) _)
            have HO3 := hid (HOH.out.keep FS.out (fun x hk e => (HOH.out.ne_ HX.out (by decide)) (e ▸ hk)))
            have HD3 := hid (HBD.out.hold HX.out HWX.out FS.out)
            clear hz FS
            go_wp2_with fail
            go_roundg (zs.length - (j + 1))
            case measure => have := HQ.out; omega
            case rel => exact ⟨j + 1, by go_num, by omega, rfl, HX3, HO3, HD3⟩
          · have d5 : ¬ (j : Int) < zs.length := by omega
            have HX2 := hid (show Blk wr hb 50 (heldBy zs) from by have h := HX.out; rwa [List.take_of_length_le (by omega)] at h)
            clear HX HOH
            go_wp2_with fail
            go_loopg [137] G.length (fun q v137 w' => ∃ j : Nat, v137 = .int .i64 j ∧ j ≤ G.length ∧ q = G.length - j ∧ Hid (Blk w' hb 50 (heldBy zs)) ∧ Hid (Bd w w1 w' g b l s (.slice Ag G.length cg) G ms (tick + dq) r0 r1 r2))
            case atStart => exact ⟨0, rfl, Nat.zero_le _, rfl, HX2, HBD⟩
            case round =>
              clear HX2 HBD hj d5 d1
              obtain ⟨j, rfl, hj, hq, HX, HBD⟩ := hrel
              have HQ := hid hq
              clear hq
              by_cases d1 : j < G.length
              · have d5 : (j : Int) < G.length := by omega
                have hx : G[j]? = some G[j] := List.getElem?_eq_getElem d1
                obtain ⟨gg, rfl⟩ : ∃ gg, Ag = some ⟨gg, 0, none⟩ := by
                  rcases HBD.out.row.2 with ⟨h0, h1⟩ | ⟨g', cap, cur, hv, _⟩
                  · omega
                  · injection hv with hv _ _
                    exact ⟨g', hv⟩
                generalize G[j] = y at hx
                have HM := hid (List.mem_of_getElem? hx)
                have hbn := HBD.out.inv.bnd y HM.out
                obtain ⟨k0, k1, k2, k3, k4⟩ := lease_at HBD.out.row hx
                obtain ⟨b0, b1, b2, b3, b4⟩ := y
                dsimp only at k0 k1 k2 k3 k4 hbn
                obtain ⟨nd, rfl⟩ := Int.eq_ofNat_of_zero_le hbn.1
                have hn4 : nd < 4 := by omega
                have hn5 : (nd : Int) < 4 := by omega
                have hb4 := hbn.2.2.1
                have hb5 := hbn.2.2.2
                clear hx hbn
                have hc := (HX.out.alloc (.cells #[.int .i64 nd, .int .i64 b1, .int .i64 b2, .int .i64 b3, .int .i64 b4] 30)).cell nd
                rw [heldBy_get _ hn4] at hc
                have HXN := hid (HX.out.alloc (.cells #[.int .i64 nd, .int .i64 b1, .int .i64 b2, .int .i64 b3, .int .i64 b4] 30))
                have HDN := hid (HBD.out.keep ((Fr.refl No wr).alloc (.cells #[.int .i64 nd, .int .i64 b1, .int .i64 b2, .int .i64 b3, .int .i64 b4] 30)))
                have hcs : (nd : Int) ∈ zs ∨ ((nd : Int) ∉ zs ∧ ¬ b3 < ep) ∨ ((nd : Int) ∉ zs ∧ b3 < ep ∧ ¬ tick + dq + p - s < b4) ∨ ((nd : Int) ∉ zs ∧ b3 < ep ∧ tick + dq + p - s < b4) := by
                  by_cases h1 : (nd : Int) ∈ zs
                  · exact .inl h1
                  · by_cases h2 : b3 < ep
                    · by_cases h3 : tick + dq + p - s < b4
                      · exact .inr (.inr (.inr ⟨h1, h2, h3⟩))
                      · exact .inr (.inr (.inl ⟨h1, h2, h3⟩))
                    · exact .inr (.inl ⟨h1, h2⟩)
                rcases hcs with e1 | ⟨e1, e2⟩ | ⟨e1, e2, e3⟩ | ⟨e1, e2, e3⟩
                · rw [decide_eq_true e1] at hc
                  clear e1
                  go_wp2_with fail
                  go_roundg (G.length - (j + 1))
                  case measure => have := HQ.out; omega
                  case rel => exact ⟨j + 1, by go_num, by omega, rfl, HXN, HDN⟩
                · rw [decide_eq_false e1] at hc
                  clear e1
                  go_wp2_with fail
                  go_roundg (G.length - (j + 1))
                  case measure => have := HQ.out; omega
                  case rel => exact ⟨j + 1, by go_num, by omega, rfl, HXN, HDN⟩
                · rw [decide_eq_false e1] at hc
                  clear e1
                  go_wp2_with fail
                  go_roundg (G.length - (j + 1))
                  case measure => have := HQ.out; omega
                  case rel => exact ⟨j + 1, by go_num, by omega, rfl, HXN, HDN⟩
                · have HTR := hid (show G.any (later ⟨nd, b1, b2, b3, b4⟩) = true from later_of (HDN.out.inv.final ep ⟨nd, b1, b2, b3, b4⟩ HM.out (HZM.out _ e1) e2 (by dsimp only; omega)))
                  rw [decide_eq_false e1] at hc
                  clear e1
                  go_wp2_with fail
                  refine (renewed_c _ _ G ⟨nd, b1, b2, b3, b4⟩ HDN.out.row (by omega)).mono ?_
                  rintro e w5 ⟨rfl, f5⟩
                  rw [HTR.out]
                  have HX5 := hid (HXN.out.keep f5 (not_no _))
                  have HD5 := hid (HDN.out.keep f5)
                  clear f5 hc
                  go_wp2_with fail
                  go_roundg (G.length - (j + 1))
                  case measure => have := HQ.out; omega
                  case rel => exact ⟨j + 1, by go_num, by omega, rfl, HX5, HD5⟩
              · have d5 : ¬ (j : Int) < G.length := by omega
                go_wp2_with fail
                refine (awake_c _).mono ?_
                rintro e w5 ⟨rfl, f5⟩
                have HF5 := hid (HBD.out.fr.fresh_no f5)
                go_wp2_with fail
                go_ret
                exact ⟨rfl, HF5.out⟩
end Go.Proofs.Ythcebkbedfaoeaa
