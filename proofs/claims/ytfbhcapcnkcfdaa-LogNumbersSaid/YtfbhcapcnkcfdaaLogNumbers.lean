import Derived.Test.YtfbhcapcnkcfdaaLogJ
import Derived.Deep.DeepCutAuto
import Derived.Deep.CutBlock
import Derived.Deep.RegionLaw
import Derived.BigRegion
/-! LogNumbers: the fixed examples of the chapter come out as written; records that are torn in every place, turned in every byte; the limits. -/
namespace Go.Proofs.Ytfbhcapcnkcfdaa
open Go.RowKit
set_option linter.unusedVariables false
set_option linter.unusedSimpArgs false

theorem u8_inc (x : UInt8) : ((x.toNat : Int) + 1) % 256 = ((x + 1).toNat : Int) := by
  rw [UInt8.toNat_add]
  simp
set_option maxRecDepth 100000 in
set_option maxHeartbeats 2000000 in
theorem logNumbers_c (w : World) : Calls Try.prog 6 #[] w (RetT w) := by
  have kc := run_convert_const (P := Try.prog) 22 5 Try.underlying22 Try.underlying5
  go_enter Try.func6, Try.ntmps6
  go_wp2_with fail
  refine (record_ref _ oneB _ (RdB.lit_ _ _ _ _ _ rfl rfl _ (by first | rfl | simp)) (by decide)).mono ?_
  rintro e w1 ⟨v1, rfl, O1, F1, G1⟩
  have HF1 := hid (((Fr.refl No w).alloc _).fresh_no F1)
  have HG1 := hid (show ∀ k, Of v1 k → w.heap.size ≤ k from fun k hk => (G1 k hk).elim (fun h => absurd h (not_no _)) (fun h => Nat.le_trans ((Fr.refl No w).alloc _).size h))
  have HO1 := hid O1
  clear O1 F1 G1
  go_wp2_with fail
  refine (record_ref _ secB _ (RdB.lit_ _ _ _ _ _ rfl rfl _ (by first | rfl | simp)) (by decide)).mono ?_
  rintro e w2 ⟨v2, rfl, O2, F2, G2⟩
  have HF2 := hid ((HF1.out.alloc _).fresh_no F2)
  have HP1 := hid (HO1.out.keep (((Fr.refl No w1).alloc _).fresh_no F2) (fun k _ => not_no k))
  have HO2 := hid O2
  clear O2 F2 G2 HO1 HF1
  have HLL := hid (show (recB oneB).length + (recB secB).length ≤ 140737488355328 by rw [one_len, sec_len]; omega)
  go_wp2_with (at_builtin; refine wpl_appB _ rfl (.tmp 37) (.tmp 40) _ rfl 5 Try.underlying22 infoU8 _ (recB oneB) rfl HP1.out _ (recB secB) rfl HO2.out.rd HLL.out ?_; intro v3 w3 O3 F3 G3; have HF3 := hid (HF2.out.fresh F3.out HG1.out); have HO3 := hid (show OwnB 5 w3 v3 allB from O3.out); clear O3 F3 G3; obtain ⟨A, c, hv, hc⟩ := HO3.out.slice; rw [all_len] at hv hc; subst hv; clear HP1 HO2 HF2 HG1 HLL)
  go_loopg [2] 26 (fun q v2 w' => ∃ n : Nat, v2 = .int .i64 n ∧ n ≤ 26 ∧ q = 26 - n ∧ Hid (OwnB 5 w' (.slice A 25 c) allB) ∧ Hid (Fr No w w'))
  case atStart => exact ⟨0, rfl, by omega, rfl, HO3, HF3⟩
  case round =>
    clear HO3 HF3
    obtain ⟨n, rfl, hn, hq, HO, HF⟩ := hrel
    have HQ := hid hq
    clear hq
    by_cases d1 : n ≤ 25
    · have d2 : (n : Int) ≤ 25 := by omega
      have d3 : (n : Int) ≤ c := by omega
      have d4 : (0 : Int) ≤ n := by omega
      have HR := hid (show RdB wr (.slice A n c) (allB.take n) from RdB.take (show RdB wr (.slice A allB.length c) allB by rw [all_len]; exact HO.out.rd) (by rw [all_len]; omega) (by omega))
      have HL := hid (show (allB.take n).length ≤ 25 by rw [List.length_take, all_len]; omega)
      obtain ⟨d, rs, hop, hby, want, hrs, hw⟩ : ∃ (d : DSt) (rs : List (List UInt8)), openD (diskB (allB.take n)) = (d, rs, 0) ∧ d.bytes.length = (recsB rs).length ∧ ∃ want : Nat, rs.length = want ∧ ((n < 11 ∧ want = 0) ∨ (11 ≤ n ∧ n < 25 ∧ want = 1) ∨ (n = 25 ∧ want = 2)) := by
        rcases (show n < 11 ∨ (11 ≤ n ∧ n < 25) ∨ n = 25 by omega) with h | ⟨h, h'⟩ | rfl
        · obtain ⟨d, rs, h1, h2, h3⟩ := openN0 n h
          exact ⟨d, rs, h1, h2, 0, h3, .inl ⟨h, rfl⟩⟩
        · obtain ⟨d, rs, h1, h2, h3⟩ := openN1 n h h'
          exact ⟨d, rs, h1, h2, 1, h3, .inr (.inl ⟨h, h', rfl⟩)⟩
        · obtain ⟨d, rs, h1, h2, h3⟩ := openN2
          exact ⟨d, rs, h1, h2, 2, h3, .inr (.inr ⟨rfl, rfl⟩)⟩
      have HOP := hid hop
      have ZB := hid (show (d.bytes.length : Int) = ((recsB rs).length : Int) by rw [hby])
      have HRS := hid hrs
      clear hop hby hrs
      rcases hw with ⟨h1, rfl⟩ | ⟨h1, h2, rfl⟩ | ⟨rfl, rfl⟩
      · have e1 : ¬ (11 : Int) ≤ n := by omega
        have e2 : ((n : Int) == 25) = false := by rw [beq_eq_false_iff_ne]; omega
        go_wp2_with fail
        refine (new_c 1000 (by omega) (by omega) _).mono ?_
        rintro e w1 ⟨g, v1, rfl, I, F, hgn, hvn⟩
        have S1 := hid (St.new I F hgn hvn)
        clear I F hgn hvn
        go_wp2_with fail
        refine (append_c S1.out.disk _ (allB.take n) (HR.out.too S1.out.fr) (fun h0 k hk hi => absurd (S1.out.its hi) (by have := HR.out.old_ h0 k hk; omega)) (by have := HL.out; omega) _ (diskB_new _ (by have := HL.out; omega))).mono ?_
        intro e w2 hr
        obtain ⟨v2, rfl, S'⟩ := S1.out.step (Fr.refl No _) hr
        have S2 := hid S'
        clear S' hr S1
        go_wp2_with fail
        refine (open_ok S2.out.disk rfl HOP.out).mono ?_
        intro e w3 hr
        obtain ⟨gm, vo, ps, v4, rfl, M', T', hps, F', G', hgm⟩ := SL.opened S2.out hr
        have M4 := hid M'
        obtain ⟨Ao, co, hvo, hco⟩ := T'.own.rds.1.slice_
        rw [show ps.length = 0 by rw [← HRS.out, ← hps, List.length_map]] at hvo
        subst hvo
        have ZN := hid (show ((rs.length : Nat) : Int) = 0 by rw [HRS.out]; rfl)
        clear M' T' hps F' G' hr S2
        go_wp2_with fail
        refine (llen_c M4.out.log).mono ?_
        rintro e wx ⟨rfl, rfl⟩
        try dsimp only
        rw [ZN.out]
        go_wp2_with fail
        refine (lbytes_c M4.out.log).mono ?_
        rintro e wx ⟨rfl, rfl⟩
        try dsimp only
        go_wp2_with fail
        refine (size_c M4.out.st.disk).mono ?_
        rintro e wx ⟨rfl, rfl⟩
        rw [ZB.out]
        go_wp2_with fail
        go_roundg (26 - (n + 1))
        case measure => have := HQ.out; omega
        case rel => exact ⟨n + 1, by go_num, by omega, rfl, hid (HO.out.keep M4.out.st.fr (fun k _ => not_no k)), hid (HF.out.fresh_no M4.out.st.fr)⟩
      · have e1 : (11 : Int) ≤ n := by omega
        have e2 : ((n : Int) == 25) = false := by rw [beq_eq_false_iff_ne]; omega
        go_wp2_with fail
        refine (new_c 1000 (by omega) (by omega) _).mono ?_
        rintro e w1 ⟨g, v1, rfl, I, F, hgn, hvn⟩
        have S1 := hid (St.new I F hgn hvn)
        clear I F hgn hvn
        go_wp2_with fail
        refine (append_c S1.out.disk _ (allB.take n) (HR.out.too S1.out.fr) (fun h0 k hk hi => absurd (S1.out.its hi) (by have := HR.out.old_ h0 k hk; omega)) (by have := HL.out; omega) _ (diskB_new _ (by have := HL.out; omega))).mono ?_
        intro e w2 hr
        obtain ⟨v2, rfl, S'⟩ := S1.out.step (Fr.refl No _) hr
        have S2 := hid S'
        clear S' hr S1
        go_wp2_with fail
        refine (open_ok S2.out.disk rfl HOP.out).mono ?_
        intro e w3 hr
        obtain ⟨gm, vo, ps, v4, rfl, M', T', hps, F', G', hgm⟩ := SL.opened S2.out hr
        have M4 := hid M'
        obtain ⟨Ao, co, hvo, hco⟩ := T'.own.rds.1.slice_
        rw [show ps.length = 1 by rw [← HRS.out, ← hps, List.length_map]] at hvo
        subst hvo
        have ZN := hid (show ((rs.length : Nat) : Int) = 1 by rw [HRS.out]; rfl)
        clear M' T' hps F' G' hr S2
        go_wp2_with fail
        refine (llen_c M4.out.log).mono ?_
        rintro e wx ⟨rfl, rfl⟩
        try dsimp only
        rw [ZN.out]
        go_wp2_with fail
        refine (lbytes_c M4.out.log).mono ?_
        rintro e wx ⟨rfl, rfl⟩
        try dsimp only
        go_wp2_with fail
        refine (size_c M4.out.st.disk).mono ?_
        rintro e wx ⟨rfl, rfl⟩
        rw [ZB.out]
        go_wp2_with fail
        go_roundg (26 - (n + 1))
        case measure => have := HQ.out; omega
        case rel => exact ⟨n + 1, by go_num, by omega, rfl, hid (HO.out.keep M4.out.st.fr (fun k _ => not_no k)), hid (HF.out.fresh_no M4.out.st.fr)⟩
      · go_wp2_with fail
        refine (new_c 1000 (by omega) (by omega) _).mono ?_
        rintro e w1 ⟨g, v1, rfl, I, F, hgn, hvn⟩
        have S1 := hid (St.new I F hgn hvn)
        clear I F hgn hvn
        go_wp2_with fail
        refine (append_c S1.out.disk _ (allB.take 25) (HR.out.too S1.out.fr) (fun h0 k hk hi => absurd (S1.out.its hi) (by have := HR.out.old_ h0 k hk; omega)) (by have := HL.out; omega) _ (diskB_new _ (by have := HL.out; omega))).mono ?_
        intro e w2 hr
        obtain ⟨v2, rfl, S'⟩ := S1.out.step (Fr.refl No _) hr
        have S2 := hid S'
        clear S' hr S1
        go_wp2_with fail
        refine (open_ok S2.out.disk rfl HOP.out).mono ?_
        intro e w3 hr
        obtain ⟨gm, vo, ps, v4, rfl, M', T', hps, F', G', hgm⟩ := SL.opened S2.out hr
        have M4 := hid M'
        obtain ⟨Ao, co, hvo, hco⟩ := T'.own.rds.1.slice_
        rw [show ps.length = 2 by rw [← HRS.out, ← hps, List.length_map]] at hvo
        subst hvo
        have ZN := hid (show ((rs.length : Nat) : Int) = 2 by rw [HRS.out]; rfl)
        clear M' T' hps F' G' hr S2
        go_wp2_with fail
        refine (llen_c M4.out.log).mono ?_
        rintro e wx ⟨rfl, rfl⟩
        try dsimp only
        rw [ZN.out]
        go_wp2_with fail
        refine (lbytes_c M4.out.log).mono ?_
        rintro e wx ⟨rfl, rfl⟩
        try dsimp only
        go_wp2_with fail
        refine (size_c M4.out.st.disk).mono ?_
        rintro e wx ⟨rfl, rfl⟩
        rw [ZB.out]
        go_wp2_with fail
        go_roundg (26 - (25 + 1))
        case measure => have := HQ.out; omega
        case rel => exact ⟨25 + 1, by go_num, by omega, rfl, hid (HO.out.keep M4.out.st.fr (fun k _ => not_no k)), hid (HF.out.fresh_no M4.out.st.fr)⟩
    · have hn2 : n = 26 := by omega
      subst hn2
      clear hn d1
      go_wp2_with fail
      go_loopg [9] 25 (fun q v9 w' => ∃ i : Nat, v9 = .int .i64 i ∧ i ≤ 25 ∧ q = 25 - i ∧ Hid (OwnB 5 w' (.slice A 25 c) allB) ∧ Hid (Fr No w w'))
      case atStart => exact ⟨0, rfl, by omega, rfl, HO, HF⟩
      case round =>
        clear HO HF
        obtain ⟨i, rfl, hi, hq, HO, HF⟩ := hrel
        have HQ := hid hq
        clear hq
        by_cases d1 : i < 25
        · have d2 : (i : Int) < 25 := by omega
          have d4 : (0 : Int) ≤ i := by omega
          rcases (show i < 11 ∨ (11 ≤ i ∧ i < 22) ∨ (22 ≤ i ∧ i < 25) by omega) with h | ⟨h, h'⟩ | ⟨h, h'⟩
          · obtain ⟨d, rs, hop, hrs⟩ := openS0 i h
            have HOP := hid hop
            have HRS := hid hrs
            have e1 : (i : Int) < 11 := by omega
            have e3 : (i : Int).tdiv 11 = 0 := by rw [Int.tdiv_eq_ediv_of_nonneg d4]; omega
            have e4 : (i : Int) / 11 = 0 := by omega
            clear hop hrs
            go_wp2_with fail
            refine (copy_c _ allB _ (show RdB wr (.slice A 25 c) allB from HO.out.rd) (by rw [all_len]; omega)).mono ?_
            rintro e w1 ⟨v1, rfl, O1, F1, G1⟩
            obtain ⟨gb, cb, hv1⟩ : ∃ gb cb, v1 = .slice (some ⟨gb, 0, none⟩) 25 cb := by
              rcases O1.2 with ⟨_, h⟩ | ⟨g', cap, cur, h, _⟩
              · exact absurd h (by rw [all_len]; omega)
              · exact ⟨g', cap, by rw [h, all_len]⟩
            subst hv1
            have hgb : wr.heap.size ≤ gb := (G1 gb (Of_some.2 rfl)).elim (fun h => absurd h (not_no _)) id
            obtain ⟨x, hx⟩ : ∃ x, allB.getD i 0 = x := ⟨_, rfl⟩
            have hx2 : allB[i]? = some x := by
              have hi : i < allB.length := by rw [all_len]; exact d1
              rw [← hx, List.getD_eq_getElem?_getD, List.getElem?_eq_getElem hi]
              rfl
            have k1 := OwnB.cell O1 hx2
            have kf : ∀ i, w1.frozen? ⟨gb, i, none⟩ = false := OwnB.frozen O1 all_len.symm
            have O2 := OwnB.set O1 all_len.symm i (x + 1)
            rw [show allB.set i (x + 1) = turnB allB i by unfold turnB; rw [hx]] at O2
            have F2 : Fr No wr (w1.setCell ⟨gb, i, none⟩ (.int .u8 (x + 1).toNat)) := F1.setCell (fun h => by have h2 : gb < wr.heap.size := h; omega) _
            have HO2 := hid O2
            have FW := hid F2
            clear O1 F1 G1 O2 F2 hgb
            go_wp2_with fail
            rw [u8_inc x]
            obtain ⟨W, hW⟩ : ∃ W, w1.setCell ⟨gb, i, none⟩ (.int .u8 (x + 1).toNat) = W := ⟨_, rfl⟩
            rw [hW] at HO2 FW ⊢
            clear hW k1 kf hx hx2
            refine (new_c 1000 (by omega) (by omega) _).mono ?_
            rintro e w2 ⟨g, v1, rfl, I, F, hgn, hvn⟩
            have S1 := hid (St.new I F hgn hvn)
            clear I F hgn hvn
            go_wp2_with fail
            refine (append_c S1.out.disk _ (turnB allB i) (HO2.out.rd.too S1.out.fr) (fun h0 k hk hi => absurd (S1.out.its hi) (by have := HO2.out.rd.old_ h0 k hk; omega)) (by rw [turn_len, all_len]; omega) _ (diskB_new _ (by rw [turn_len, all_len]; omega))).mono ?_
            intro e w3 hr
            obtain ⟨v2, rfl, S'⟩ := S1.out.step (Fr.refl No _) hr
            have S2 := hid S'
            clear S' hr S1
            go_wp2_with fail
            refine (open_ok S2.out.disk rfl HOP.out).mono ?_
            intro e w4 hr
            obtain ⟨gm, vo, ps, v4, rfl, M', T', hps, F', G', hgm⟩ := SL.opened S2.out hr
            have M4 := hid M'
            obtain ⟨Ao, co, hvo, hco⟩ := T'.own.rds.1.slice_
            rw [show ps.length = 0 by rw [← HRS.out, ← hps, List.length_map]] at hvo
            subst hvo
            have ZN := hid (show ((rs.length : Nat) : Int) = 0 by rw [HRS.out]; rfl)
            clear M' T' hps F' G' hr S2
            go_wp2_with fail
            refine (llen_c M4.out.log).mono ?_
            rintro e wx ⟨rfl, rfl⟩
            try dsimp only
            rw [ZN.out]
            go_wp2_with fail
            refine (llen_c M4.out.log).mono ?_
            rintro e wx ⟨rfl, rfl⟩
            try dsimp only
            rw [ZN.out]
            go_wp2_with fail
            refine (llen_c M4.out.log).mono ?_
            rintro e wx ⟨rfl, rfl⟩
            try dsimp only
            rw [ZN.out]
            go_wp2_with fail
            go_roundg (25 - (i + 1))
            case measure => have := HQ.out; omega
            case rel => exact ⟨i + 1, by go_num, by omega, rfl, hid (HO.out.keep (FW.out.fresh_no M4.out.st.fr) (fun k _ => not_no k)), hid (HF.out.fresh_no (FW.out.fresh_no M4.out.st.fr))⟩
          · obtain ⟨d, rs, hop, hrs⟩ := openS1 i h (by omega)
            have HOP := hid hop
            have HRS := hid hrs
            have e1 : ¬ (i : Int) < 11 := by omega
            have e3 : (i : Int).tdiv 11 = 1 := by rw [Int.tdiv_eq_ediv_of_nonneg d4]; omega
            have e4 : (i : Int) / 11 = 1 := by omega
            clear hop hrs
            go_wp2_with fail
            refine (copy_c _ allB _ (show RdB wr (.slice A 25 c) allB from HO.out.rd) (by rw [all_len]; omega)).mono ?_
            rintro e w1 ⟨v1, rfl, O1, F1, G1⟩
            obtain ⟨gb, cb, hv1⟩ : ∃ gb cb, v1 = .slice (some ⟨gb, 0, none⟩) 25 cb := by
              rcases O1.2 with ⟨_, h⟩ | ⟨g', cap, cur, h, _⟩
              · exact absurd h (by rw [all_len]; omega)
              · exact ⟨g', cap, by rw [h, all_len]⟩
            subst hv1
            have hgb : wr.heap.size ≤ gb := (G1 gb (Of_some.2 rfl)).elim (fun h => absurd h (not_no _)) id
            obtain ⟨x, hx⟩ : ∃ x, allB.getD i 0 = x := ⟨_, rfl⟩
            have hx2 : allB[i]? = some x := by
              have hi : i < allB.length := by rw [all_len]; exact d1
              rw [← hx, List.getD_eq_getElem?_getD, List.getElem?_eq_getElem hi]
              rfl
            have k1 := OwnB.cell O1 hx2
            have kf : ∀ i, w1.frozen? ⟨gb, i, none⟩ = false := OwnB.frozen O1 all_len.symm
            have O2 := OwnB.set O1 all_len.symm i (x + 1)
            rw [show allB.set i (x + 1) = turnB allB i by unfold turnB; rw [hx]] at O2
            have F2 : Fr No wr (w1.setCell ⟨gb, i, none⟩ (.int .u8 (x + 1).toNat)) := F1.setCell (fun h => by have h2 : gb < wr.heap.size := h; omega) _
            have HO2 := hid O2
            have FW := hid F2
            clear O1 F1 G1 O2 F2 hgb
            go_wp2_with fail
            rw [u8_inc x]
            obtain ⟨W, hW⟩ : ∃ W, w1.setCell ⟨gb, i, none⟩ (.int .u8 (x + 1).toNat) = W := ⟨_, rfl⟩
            rw [hW] at HO2 FW ⊢
            clear hW k1 kf hx hx2
            refine (new_c 1000 (by omega) (by omega) _).mono ?_
            rintro e w2 ⟨g, v1, rfl, I, F, hgn, hvn⟩
            have S1 := hid (St.new I F hgn hvn)
            clear I F hgn hvn
            go_wp2_with fail
            refine (append_c S1.out.disk _ (turnB allB i) (HO2.out.rd.too S1.out.fr) (fun h0 k hk hi => absurd (S1.out.its hi) (by have := HO2.out.rd.old_ h0 k hk; omega)) (by rw [turn_len, all_len]; omega) _ (diskB_new _ (by rw [turn_len, all_len]; omega))).mono ?_
            intro e w3 hr
            obtain ⟨v2, rfl, S'⟩ := S1.out.step (Fr.refl No _) hr
            have S2 := hid S'
            clear S' hr S1
            go_wp2_with fail
            refine (open_ok S2.out.disk rfl HOP.out).mono ?_
            intro e w4 hr
            obtain ⟨gm, vo, ps, v4, rfl, M', T', hps, F', G', hgm⟩ := SL.opened S2.out hr
            have M4 := hid M'
            obtain ⟨Ao, co, hvo, hco⟩ := T'.own.rds.1.slice_
            rw [show ps.length = 1 by rw [← HRS.out, ← hps, List.length_map]] at hvo
            subst hvo
            have ZN := hid (show ((rs.length : Nat) : Int) = 1 by rw [HRS.out]; rfl)
            clear M' T' hps F' G' hr S2
            go_wp2_with fail
            refine (llen_c M4.out.log).mono ?_
            rintro e wx ⟨rfl, rfl⟩
            try dsimp only
            rw [ZN.out]
            go_wp2_with fail
            refine (llen_c M4.out.log).mono ?_
            rintro e wx ⟨rfl, rfl⟩
            try dsimp only
            rw [ZN.out]
            go_wp2_with fail
            refine (llen_c M4.out.log).mono ?_
            rintro e wx ⟨rfl, rfl⟩
            try dsimp only
            rw [ZN.out]
            go_wp2_with fail
            go_roundg (25 - (i + 1))
            case measure => have := HQ.out; omega
            case rel => exact ⟨i + 1, by go_num, by omega, rfl, hid (HO.out.keep (FW.out.fresh_no M4.out.st.fr) (fun k _ => not_no k)), hid (HF.out.fresh_no (FW.out.fresh_no M4.out.st.fr))⟩
          · obtain ⟨d, rs, hop, hrs⟩ := openS1 i (by omega) h'
            have HOP := hid hop
            have HRS := hid hrs
            have e1 : ¬ (i : Int) < 11 := by omega
            have e3 : (i : Int).tdiv 11 = 2 := by rw [Int.tdiv_eq_ediv_of_nonneg d4]; omega
            have e4 : (i : Int) / 11 = 2 := by omega
            clear hop hrs
            go_wp2_with fail
            refine (copy_c _ allB _ (show RdB wr (.slice A 25 c) allB from HO.out.rd) (by rw [all_len]; omega)).mono ?_
            rintro e w1 ⟨v1, rfl, O1, F1, G1⟩
            obtain ⟨gb, cb, hv1⟩ : ∃ gb cb, v1 = .slice (some ⟨gb, 0, none⟩) 25 cb := by
              rcases O1.2 with ⟨_, h⟩ | ⟨g', cap, cur, h, _⟩
              · exact absurd h (by rw [all_len]; omega)
              · exact ⟨g', cap, by rw [h, all_len]⟩
            subst hv1
            have hgb : wr.heap.size ≤ gb := (G1 gb (Of_some.2 rfl)).elim (fun h => absurd h (not_no _)) id
            obtain ⟨x, hx⟩ : ∃ x, allB.getD i 0 = x := ⟨_, rfl⟩
            have hx2 : allB[i]? = some x := by
              have hi : i < allB.length := by rw [all_len]; exact d1
              rw [← hx, List.getD_eq_getElem?_getD, List.getElem?_eq_getElem hi]
              rfl
            have k1 := OwnB.cell O1 hx2
            have kf : ∀ i, w1.frozen? ⟨gb, i, none⟩ = false := OwnB.frozen O1 all_len.symm
            have O2 := OwnB.set O1 all_len.symm i (x + 1)
            rw [show allB.set i (x + 1) = turnB allB i by unfold turnB; rw [hx]] at O2
            have F2 : Fr No wr (w1.setCell ⟨gb, i, none⟩ (.int .u8 (x + 1).toNat)) := F1.setCell (fun h => by have h2 : gb < wr.heap.size := h; omega) _
            have HO2 := hid O2
            have FW := hid F2
            clear O1 F1 G1 O2 F2 hgb
            go_wp2_with fail
            rw [u8_inc x]
            obtain ⟨W, hW⟩ : ∃ W, w1.setCell ⟨gb, i, none⟩ (.int .u8 (x + 1).toNat) = W := ⟨_, rfl⟩
            rw [hW] at HO2 FW ⊢
            clear hW k1 kf hx hx2
            refine (new_c 1000 (by omega) (by omega) _).mono ?_
            rintro e w2 ⟨g, v1, rfl, I, F, hgn, hvn⟩
            have S1 := hid (St.new I F hgn hvn)
            clear I F hgn hvn
            go_wp2_with fail
            refine (append_c S1.out.disk _ (turnB allB i) (HO2.out.rd.too S1.out.fr) (fun h0 k hk hi => absurd (S1.out.its hi) (by have := HO2.out.rd.old_ h0 k hk; omega)) (by rw [turn_len, all_len]; omega) _ (diskB_new _ (by rw [turn_len, all_len]; omega))).mono ?_
            intro e w3 hr
            obtain ⟨v2, rfl, S'⟩ := S1.out.step (Fr.refl No _) hr
            have S2 := hid S'
            clear S' hr S1
            go_wp2_with fail
            refine (open_ok S2.out.disk rfl HOP.out).mono ?_
            intro e w4 hr
            obtain ⟨gm, vo, ps, v4, rfl, M', T', hps, F', G', hgm⟩ := SL.opened S2.out hr
            have M4 := hid M'
            obtain ⟨Ao, co, hvo, hco⟩ := T'.own.rds.1.slice_
            rw [show ps.length = 1 by rw [← HRS.out, ← hps, List.length_map]] at hvo
            subst hvo
            have ZN := hid (show ((rs.length : Nat) : Int) = 1 by rw [HRS.out]; rfl)
            clear M' T' hps F' G' hr S2
            go_wp2_with fail
            refine (llen_c M4.out.log).mono ?_
            rintro e wx ⟨rfl, rfl⟩
            try dsimp only
            rw [ZN.out]
            go_wp2_with fail
            refine (llen_c M4.out.log).mono ?_
            rintro e wx ⟨rfl, rfl⟩
            try dsimp only
            rw [ZN.out]
            go_wp2_with fail
            refine (llen_c M4.out.log).mono ?_
            rintro e wx ⟨rfl, rfl⟩
            try dsimp only
            rw [ZN.out]
            go_wp2_with fail
            refine (llen_c M4.out.log).mono ?_
            rintro e wx ⟨rfl, rfl⟩
            try dsimp only
            rw [ZN.out]
            go_wp2_with fail
            go_roundg (25 - (i + 1))
            case measure => have := HQ.out; omega
            case rel => exact ⟨i + 1, by go_num, by omega, rfl, hid (HO.out.keep (FW.out.fresh_no M4.out.st.fr) (fun k _ => not_no k)), hid (HF.out.fresh_no (FW.out.fresh_no M4.out.st.fr))⟩
        · have hn2 : i = 25 := by omega
          subst hn2
          clear hi d1
          go_wp2_with fail
          refine (new_c 1000 (by omega) (by omega) _).mono ?_
          rintro e w1 ⟨gz, vz1, rfl, I, F, hgn, hvn⟩
          have S1 := hid (St.new I F hgn hvn)
          clear I F hgn hvn
          obtain ⟨dz, rz, hop, hrz, hbz⟩ := openZ
          have HOP := hid hop
          have HRZ := hid hrz
          have HBZ := hid hbz
          clear hop hrz hbz
          go_wp2_with (at_make; refine wpl_makeB _ rfl _ _ _ rfl 5 Try.underlying22 infoU8 _ _ _ _ 40 rfl rfl rfl rfl (by omega) ?_; intro w2 O2 F2)
          refine (append_c (S1.out.keep F2.out).disk _ (List.replicate 40 0) O2.out.rd (fun h0 => its_new S1.out.disk h0) (by rw [List.length_replicate]; omega) _ (diskB_new _ (by rw [List.length_replicate]; omega))).mono ?_
          intro e w3 hr
          obtain ⟨vz2, rfl, S'⟩ := (S1.out.keep F2.out).step (Fr.refl No _) hr
          have S2 := hid S'
          clear S' hr S1 O2 F2
          go_wp2_with fail
          refine (open_ok S2.out.disk rfl HOP.out).mono ?_
          intro e w4 hr
          obtain ⟨glz, voz, psz, vz4, rfl, M', T', hps, F', G', hgm⟩ := SL.opened S2.out hr
          have SZ := hid M'
          obtain ⟨Aoz, coz, hvo, hco⟩ := T'.own.rds.1.slice_
          rw [show psz.length = 0 by rw [← HRZ.out, ← hps, List.length_map]] at hvo
          subst hvo
          have ZN := hid (show ((rz.length : Nat) : Int) = 0 by rw [HRZ.out]; rfl)
          have ZB := hid (show ((dz.bytes.length : Nat) : Int) = 0 by rw [HBZ.out]; rfl)
          have HFZ := hid (HF.out.fresh_no SZ.out.st.fr)
          clear M' T' hps F' G' hr S2 hco hgm HO HF
          go_wp2_with fail
          refine (new_c 30 (by omega) (by omega) _).mono ?_
          rintro e w5 ⟨g, v5, rfl, I, F, hgn, hvn⟩
          have S5 := hid (St.new I F hgn hvn)
          clear I F hgn hvn
          go_wp2_with fail
          refine (open_ok S5.out.disk rfl (openD_whole _ [] rfl rfl (by simp))).mono ?_
          intro e w6 hr
          obtain ⟨gl, vo, ps0, v6, rfl, S', T', hps, F', G', hgl⟩ := SL.opened S5.out hr
          have S6 := hid (show SL w4 w6 g v6 (diskOf 30 [] (-1)) gl (logOf []) from S')
          obtain ⟨Ao, co, rfl, hco⟩ := T'.own.rds.1.slice_
          clear S' T' hps F' G' hr S5 hgl
          have HB0 := hid (show (0 : Int) ≤ (logOf []).n ∧ (logOf []).n ≤ 4611686018427387904 ∧ (0 : Int) ≤ (logOf []).bytes ∧ (logOf []).bytes ≤ 4611686018427387904 by simp [logOf, recsB])
          go_upto_region 32 with fail
          go_cut [26, 27, 28, 29] (fun s26 s27 s28 s29 wq => s26 = .int .i64 2 ∧ s27 = .int .i64 3 ∧ s28 = .int .i64 5 ∧ s29 = .int .i64 0 ∧ ∃ v7, Hid (SL w4 wq g v7 (diskOf 30 [z22] (-1)) gl (logOf [z22])))
          case first =>
            have SC0 := hid (S6.out.keep ((Fr.refl No w6).drew))
            refine wp_region_held_drew (S := fun _ => True) (by kernel_rfl) trivial (fun _ => ?_)
            refine wpAnyH_take (i := 0) (oi := ⟨_, _, _, _, _, _⟩) (v := ?_) rfl (by kernel_rfl) (by kernel_rfl) (by kernel_rfl) (fun _ _ _ h => h) (Or.inl ⟨by rfl, ?_⟩) trivial ?_
            rotate_left
            · (intro w hSw; go_simp)
              try with_reducible rfl
            try simp only [Act.put, List.setIfInBounds_toArray, List.set_cons_zero, List.set_cons_succ]
            refine wpAnyH_take (i := 2) (oi := ⟨_, _, _, _, _, _⟩) (v := ?_) rfl (by kernel_rfl) (by kernel_rfl) (by kernel_rfl) (fun _ _ _ h => h) (Or.inl ⟨by rfl, ?_⟩) trivial ?_
            rotate_left
            · (intro w hSw; go_simp)
              try with_reducible rfl
            try simp only [Act.put, List.setIfInBounds_toArray, List.set_cons_zero, List.set_cons_succ]
            refine wpAnyH_take (i := 5) (oi := ⟨_, _, _, _, _, _⟩) (v := ?_) rfl (by kernel_rfl) (by kernel_rfl) (by kernel_rfl) (fun _ _ _ h => h) (Or.inl ⟨by rfl, ?_⟩) trivial ?_
            rotate_left
            · (intro w hSw; go_simp)
              try with_reducible rfl
            try simp only [Act.put, List.setIfInBounds_toArray, List.set_cons_zero, List.set_cons_succ]
            refine wpAnyH_take (i := 8) (oi := ⟨_, _, _, _, _, _⟩) (v := ?_) rfl (by kernel_rfl) (by kernel_rfl) (by kernel_rfl) (fun _ _ _ h => h) (Or.inl ⟨by rfl, ?_⟩) trivial ?_
            rotate_left
            · (intro w hSw; go_simp)
              try with_reducible rfl
            try simp only [Act.put, List.setIfInBounds_toArray, List.set_cons_zero, List.set_cons_succ]
            refine adds_region (w0 := w4) (g := g) (gl := gl) ⟨rfl, ⟨_, rfl, ⟨rfl, rfl, _, _, rfl⟩⟩, ⟨_, rfl, ⟨rfl, rfl, rfl⟩⟩, ⟨_, rfl, ⟨rfl, rfl, _, _, rfl⟩, by kernel_rfl, by kernel_rfl⟩, ⟨_, rfl, ⟨rfl, rfl, rfl⟩⟩, ⟨_, rfl, ⟨rfl, rfl, _, _, rfl⟩, by kernel_rfl, by kernel_rfl⟩, ⟨_, rfl, ⟨rfl, rfl, rfl⟩⟩, ⟨_, rfl, ⟨rfl, rfl, _, _, rfl⟩, by kernel_rfl, by kernel_rfl⟩, ⟨_, rfl, by kernel_rfl⟩, ⟨_, rfl, by kernel_rfl⟩, ⟨_, rfl, by kernel_rfl⟩, ⟨_, rfl, by kernel_rfl⟩, ?_⟩ (by rfl) (by rfl) (by rfl) (by rfl) (by rfl) SC0.out ?_
            · intro m1 m2 m3 k hk c1 c2 c3 hn h
              have key : ∀ l : List Nat, l.isEmpty = false → l ≠ [] := fun l h e => by rw [e] at h; cases h
              revert h
              refine key _ ?_
              cases m1 <;> cases m2 <;> cases m3 <;> rcases (show k = 0 ∨ k = 1 ∨ k = 2 ∨ k = 3 ∨ k = 4 by omega) with rfl | rfl | rfl | rfl | rfl
              all_goals first | (simp at c1; done) | (simp at c2; done) | (simp at c3; done) | (simp at hn; done) | kernel_rfl
            intro y1 y2 y3 v7 w7 hS7
            have SC4 := hid hS7
            clear hS7
            rw [show listedA true true true 4 = #[true, true, true, true, true, true, true, true, true, true, true, false, false, false, false] from rfl]
            simp only [chain7, List.setIfInBounds_toArray, List.set_cons_zero, List.set_cons_succ]
            refine wpAnyH_take (i := 11) (oi := ⟨_, _, _, _, _, _⟩) (v := ?_) rfl (by kernel_rfl) (by kernel_rfl) (by kernel_rfl) (fun _ _ _ h => h) (Or.inl ⟨by rfl, ?_⟩) trivial ?_
            rotate_left
            · (intro w hSw; go_simp)
              try with_reducible rfl
            try simp only [Act.put, List.setIfInBounds_toArray, List.set_cons_zero, List.set_cons_succ]
            refine wpAnyH_take (i := 12) (oi := ⟨_, _, _, _, _, _⟩) (v := ?_) rfl (by kernel_rfl) (by kernel_rfl) (by kernel_rfl) (fun _ _ _ h => h) (Or.inl ⟨by rfl, ?_⟩) trivial ?_
            rotate_left
            · (intro w hSw; go_simp)
              try with_reducible rfl
            try simp only [Act.put, List.setIfInBounds_toArray, List.set_cons_zero, List.set_cons_succ]
            refine wpAnyH_take (i := 13) (oi := ⟨_, _, _, _, _, _⟩) (v := ?_) rfl (by kernel_rfl) (by kernel_rfl) (by kernel_rfl) (fun _ _ _ h => h) (Or.inl ⟨by rfl, ?_⟩) trivial ?_
            rotate_left
            · (intro w hSw; go_simp)
              try with_reducible rfl
            try simp only [Act.put, List.setIfInBounds_toArray, List.set_cons_zero, List.set_cons_succ]
            refine wpAnyH_take (i := 14) (oi := ⟨_, _, _, _, _, _⟩) (v := ?_) rfl (by kernel_rfl) (by kernel_rfl) (by kernel_rfl) (fun _ _ _ h => h) (Or.inl ⟨by rfl, ?_⟩) trivial ?_
            rotate_left
            · (intro w hSw; go_simp)
              try with_reducible rfl
            try simp only [Act.put, List.setIfInBounds_toArray, List.set_cons_zero, List.set_cons_succ]
            refine wpAnyH_done (by kernel_rfl) ?_ _
            go_wp2_with fail
            go_meet
            exact ⟨rfl, rfl, rfl, rfl, _, SC4⟩
          case rest =>
            obtain ⟨rfl, rfl, rfl, rfl, v7, S7⟩ := hcut
            clear S6 HB0
            go_wp2_with fail
            refine (crash_c S7.out.st.disk 0 _ full_4).mono ?_
            rintro e w1 ⟨v1, rfl, I, F, G⟩
            have A1 := hid (S7.out.disk I F G)
            clear I F G S7
            go_wp2_with fail
            refine (cut_c A1.out.st.disk 0 _ full_5).mono ?_
            rintro e w2 ⟨v2, rfl, I, F, G⟩
            have A2 := hid (A1.out.disk I F G)
            clear I F G A1
            go_wp2_with fail
            refine (arm_c A2.out.st.disk 1 (by omega) _ full_6).mono ?_
            rintro e w3 ⟨v3, rfl, I, F, G⟩
            have A3 := hid (A2.out.disk I F G)
            clear I F G A2
            go_wp2_with fail
            refine (add_c (A3.out.st.disk.keep_no ((Fr.refl No _).alloc _)) (Blk.keep A3.out.log ((Fr.refl No _).alloc _) (not_no _)) _ [120] (RdB.lit_ _ _ _ _ _ rfl rfl _ (by first | rfl | simp)) (by simp [logOf]) (by simp [logOf]) (by simp [logOf]) (by simp [logOf, recsB, recB_length, z22]) _ full_7).mono ?_
            intro e w5 hr
            obtain ⟨v5, rfl, S', F', G'⟩ := (A3.out.keep ((Fr.refl No _).alloc _)).add hr
            have A5 := hid S'
            clear S' F' G' hr A3
            go_wp2_with fail
            refine (crash_c A5.out.st.disk 100 _ full_8).mono ?_
            rintro e w6 ⟨v6, rfl, I, F, G⟩
            have A6 := hid (A5.out.disk I F G)
            clear I F G A5
            go_wp2_with fail
            refine (add_c (A6.out.st.disk.keep_no ((Fr.refl No _).alloc _)) (Blk.keep A6.out.log ((Fr.refl No _).alloc _) (not_no _)) _ [121] (RdB.lit_ _ _ _ _ _ rfl rfl _ (by first | rfl | simp)) (by decide) (by decide) (by decide) (by decide) _ (full_9 _)).mono ?_
            intro e w8 hr
            obtain ⟨v8, rfl, S', F', G'⟩ := (A6.out.keep ((Fr.refl No _).alloc _)).add hr
            have A8 := hid S'
            clear S' F' G' hr A6
            go_wp2_with fail
            refine (open_ok A8.out.st.disk rfl full_10).mono ?_
            intro e w9 hr
            obtain ⟨gm, vm, ps, v9, rfl, M', T', hps, F', G', hgm⟩ := SL.opened A8.out.st hr
            have M9 := hid M'
            have T9 := hid T'
            have hpl : ps.length = 1 := by have := congrArg List.length hps; simpa using this
            obtain ⟨p, rfl⟩ : ∃ p, ps = [p] := List.length_eq_one_iff.1 hpl
            have HPS := hid hps
            clear hpl
            obtain ⟨Am, cm, rfl, hcm⟩ := T'.own.rds.1.slice_
            have FZ := hid M'.st.fr
            clear M' T' hps F' G' hr A8
            have SZ9 := hid (SZ.out.keep FZ.out)
            have HF9 := hid (HFZ.out.fresh_no FZ.out)
            clear SZ HFZ FZ
            go_wp2_with fail
            refine (llen_c SZ9.out.log).mono ?_
            rintro e wx ⟨rfl, rfl⟩
            try dsimp only
            rw [ZN.out]
            go_wp2_with fail
            refine (size_c SZ9.out.st.disk).mono ?_
            rintro e wx ⟨rfl, rfl⟩
            rw [ZB.out]
            go_wp2_with fail
            refine (llen_c M9.out.log).mono ?_
            rintro e wx ⟨rfl, rfl⟩
            try dsimp only
            go_wp2_with fail
            refine (sameL_yes _ _ [p] _ _ (T9.out.own.rds.too (((Fr.refl No _).alloc _).alloc _)) (RdLs.lit2 _ _ _ _ _ _ [120] rfl rfl _ _ rfl (by first | rfl | simp)) HPS.out (by simp)).mono ?_
            rintro e w11 ⟨rfl, n11, rfl⟩
            go_wp2_with fail
            refine (awake_c _).mono ?_
            intro e w12 hr
            obtain ⟨rfl, F12⟩ := hr
            go_wp2_with fail
            go_ret
            exact ⟨rfl, (((HF9.out.alloc _).alloc _).drewN _).fresh_no F12⟩
end Go.Proofs.Ytfbhcapcnkcfdaa
