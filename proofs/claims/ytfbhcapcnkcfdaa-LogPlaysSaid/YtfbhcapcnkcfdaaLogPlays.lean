import Derived.Test.YtfbhcapcnkcfdaaLogW
import Derived.Test.YtfbhcapcnkcfdaaLogO
import Derived.Deep.DeepCutAuto
import Derived.Deep.CutBlock
/-! LogPlays: through any script of a log and its disk every answer, the records, and the disk's bytes are as the document defines. -/
namespace Go.Proofs.Ytfbhcapcnkcfdaa
open Go.RowKit
set_option linter.unusedVariables false
set_option linter.unusedSimpArgs false

set_option maxRecDepth 100000 in
set_option maxHeartbeats 16000000 in
theorem logPlays_c (m0 : Int) (b0 : -9223372036854775808 ≤ m0) (b1 : m0 ≤ 9223372036854775807) (y : Value) (os : List OpV) (w : World) (hy : RdO w y os) :
    Calls Try.prog 8 #[.int .i64 m0, y] w (RetT w) := by
  obtain ⟨A1, c1, rfl, q1, _⟩ := hy.1
  have HY1 := hid hy
  clear hy
  rcases (show m0 < 0 ∨ 0 ≤ m0 by omega) with hm | hm0
  · have hm2 : m0 < 0 ∨ m0 > 67108864 := .inl hm
    have hm3 : ¬ 1048576 < m0 := by omega
    go_enter Try.func8, Try.ntmps8
    go_wp2_with fail
    refine (new_bad _ hm2 _).mono ?_
    rintro e wx ⟨rfl, rfl⟩
    go_wp2_with fail
    refine (rnew_bad _ _ hm2).mono ?_
    rintro e w2 ⟨rfl, F2⟩
    have F3 := hid (F2.alloc (.cells #[.int .i64 0, .slice none 0 0, .int .i64 0, .int .i64 0, .bool false] 49))
    clear F2
    go_wp2_with fail
    refine (awake_c _).mono ?_
    rintro e w8 ⟨rfl, B⟩
    have F8 := hid (F3.out.fresh_no B)
    clear B
    go_wp2_with fail
    go_ret
    exact ⟨rfl, F8.out⟩
  all_goals
    go_enter Try.func8, Try.ntmps8
    go_upto_if 27 with fail
    go_cut [0] (fun s0 wq => ∃ most : Int, s0 = .int .i64 most ∧ 0 ≤ most ∧ most ≤ 1048576 ∧ w = wq)
    case first =>
      by_cases hm : 1048576 < m0
      · go_wp2_with fail
        go_meet
        exact ⟨m0 % 1000, rfl, by omega, by omega, rfl⟩
      · go_wp2_with fail
        go_meet
        exact ⟨m0, rfl, hm0, by omega, rfl⟩
    obtain ⟨most, rfl, h0', h1'', rfl⟩ := hcut
    have h1' : most ≤ 67108864 := by omega
    go_wp2_with fail
    refine (new_c _ h0' h1' _).mono ?_
    rintro e w1 ⟨g, v1, rfl, I, F, hgn, hvn⟩
    have S1 := hid (St.new I F hgn hvn)
    clear I F hgn hvn
    go_wp2_with fail
    refine (rnew_c _ _ h0' h1').mono ?_
    rintro e w2 ⟨rfl, F2⟩
    have B2 := Blk.new w2 49 #[.int .i64 most, .slice none 0 0, .int .i64 0, .int .i64 (-1), .bool false]
    have SA := hid ((S1.out.keep F2).keep ((Fr.refl No _).alloc (.cells #[.int .i64 most, .slice none 0 0, .int .i64 0, .int .i64 (-1), .bool false] 49)))
    have HGB := hid (Nat.le_trans S1.out.fr.size F2.size)
    clear F2 S1
    unfold refV newD
    go_wp2_with fail
    refine (open_ok SA.out.disk rfl (openD_whole _ [] rfl rfl (by simp))).mono ?_
    intro e w3 hr
    obtain ⟨gl0, vo, ps0, v2, rfl, S', T', hps, F', G', hgl⟩ := SL.opened SA.out hr
    have S2 := hid (show SL w w3 g v2 (newD most) gl0 (logOf []) from S')
    obtain ⟨Ao, co, rfl, hco⟩ := T'.own.rds.1.slice_
    have B3 := hid (B2.keep F' (SA.out.disk.notIts B2 (by decide) (by decide)))
    clear S' T' hps F' G' hr SA B2
    obtain ⟨b0', b1', b2', b3', b4', bf'⟩ := B3.out.five
    go_wp2_with fail
    refine (open_ref0 _ most).mono ?_
    rintro e w4 ⟨A4, c4, Ao2, co2, rfl, R4, F4⟩
    have S3 := hid ((Play.start S2.out B3.out HGB.out R4 rfl F4).logs (logOf []))
    have BQ := box_after w4 w2.heap.size (Nat.lt_of_lt_of_le B3.out.lt F4.size) 53 #[.int .i64 0, .int .i64 0, .bool false] (.int .i64 most) (.slice A4 0 c4) (.int .i64 0) (.int .i64 (-1)) (.bool false)
    have B4 := (B3.out.keep F4 (not_no _)).alloc (.cells #[.int .i64 0, .int .i64 0, .bool false] 53)
    clear R4 F4 b0' b1' b2' b3' b4' bf' S2 B3
    obtain ⟨b0', b1', b2', b3', b4', bf'⟩ := B4.five
    obtain ⟨t0, t1, t2, tf⟩ := BQ.threes
    go_wp2_with fail
    clear t0 t1 t2 tf BQ
    clear b0' b1' b2' b3' b4' bf' B4
    go_loopg [9, 15] 50 (fun q v9 v15 w' => ∃ (i : Nat) (v u : Value) (d : DSt) (gl : Nat) (l : LSt), v9 = .pointer (some ⟨gl, 0, none⟩) ∧ v15 = .int .i64 i ∧ i ≤ 50 ∧ q = 50 - i ∧ (0 ≤ l.n ∧ l.n ≤ 67108864 + 1000 * i ∧ 0 ≤ l.bytes ∧ l.bytes ≤ 67108864 + 1000 * i) ∧ Hid (Play w w' g v d w2.heap.size u d gl l w4.heap.size l))
    case atStart => exact ⟨0, v2, _, newD most, gl0, logOf [], rfl, rfl, by omega, rfl, (by simp [logOf, recsB]), S3⟩
    case round =>
      clear S3
      obtain ⟨i, v, u, d, gl, l, rfl, rfl, hi, hq, hb, HS⟩ := hrel
      have HQ := hid hq
      have HB := hid hb
      clear hq hb
      by_cases d1 : i < os.length ∧ i < 50
      · obtain ⟨d1, d2⟩ := d1
        have d3 : (i : Int) < os.length := by omega
        have d4 : (i : Int) < 50 := by omega
        obtain ⟨b, off, kind, n, A', c', ys, rfl, hz, k0, k1, k2, hok⟩ := (HY1.out.keep HS.out.sl.st.fr).at_ d1
        have HOLD := (HY1.out.2 _ (List.mem_of_getElem? hz)).1.2
        have HYR := (HY1.out.2 _ (List.mem_of_getElem? hz)).1.1
        have HYO := hid (show ∀ w' : World, Fr No w w' → RdB w' (.slice A' ys.length c') ys from fun _ hf => HYR.fr hf)
        have HYG := hid (show 0 < ys.length → ∀ k, Of (.slice A' ys.length c') k → ¬ Its g v k from fun h0 k hk hi => by have h1 := HOLD h0 k hk; have h2 := HS.out.sl.st.its hi; omega)
        have HN := hid hok.2.2.2.2
        clear hz hok HOLD HYR
        by_cases hc200 : ys.length ≤ 200
        · have c6 : (ys.length : Int) ≤ 200 := by omega
          have HY200 := hid hc200
          go_upto_block 2 with fail
          generalize hW : wr.alloc (.cells #[.int .i64 kind, .int .i64 n, .slice A' ys.length c'] 57) = W
          have FW : Fr No wr W := by rw [← hW]; exact (Fr.refl No wr).alloc _
          have D10 := hid (show Blk W wr.heap.size 57 #[.int .i64 kind, .int .i64 n, .slice A' ys.length c'] from by rw [← hW]; exact Blk.new wr _ _)
          have S0 := hid (HS.out.keep FW)
          have HNW := hid (show ¬ (Its g v wr.heap.size ∨ wr.heap.size = gl) from fun h => h.elim (fun h => absurd (HS.out.sl.st.disk.its_lt h) (by omega)) (fun h => absurd (Blk.lt HS.out.sl.log) (by omega)))
          have HY := hid (HYO.out _ S0.out.sl.st.fr)
          clear hW FW HS k0 k1 k2
          go_cut [9, 17, 18] (fun s9 s17 s18 wq => ∃ (e : Nat) (v2 u2 : Value) (d2 : DSt) (gl2 : Nat) (l2 : LSt), s9 = .pointer (some ⟨gl2, 0, none⟩) ∧ s17 = .int .i64 e ∧ s18 = .int .i64 e ∧ (0 ≤ l2.n ∧ l2.n ≤ 67108864 + 1000 * (i + 1) ∧ 0 ≤ l2.bytes ∧ l2.bytes ≤ 67108864 + 1000 * (i + 1)) ∧ Hid (Play w wq g v2 d2 w2.heap.size u2 d2 gl2 l2 w4.heap.size l2))
          case first =>
            obtain ⟨a0, a1, a2, af⟩ := D10.out.threes
            obtain ⟨b0, b1, b2, b3, b4, bf⟩ := S0.out.blk.five
            obtain ⟨q0, q1, q2, qf⟩ := S0.out.lb.threes
            obtain ⟨A5, c5, rfl, hc5⟩ := S0.out.rd.slice
            by_cases ck : kind = 1 ∨ kind = 2 ∨ kind = 3
            · obtain ⟨⟨r1, r2⟩, hr⟩ : ∃ r, addL d l ys = r := ⟨_, rfl⟩
              have HR := hid hr
              clear hr
              obtain ⟨l2, r3⟩ := r2
              have HAB := hid (addL_bound d l ys _ HR.out)
              rcases ck with rfl | rfl | rfl
              all_goals
                go_wp2_with fail
                have hbd := HB.out
                refine (add_c S0.out.sl.st.disk S0.out.sl.log _ ys HY.out (by omega) (by omega) (by omega) (by omega) _ HR.out).mono ?_
                intro e w3 hr
                obtain ⟨v3, rfl, S', hF, hG⟩ := S0.out.sl.add hr
                have D103 := hid (D10.out.keep hF HNW.out)
                have S3 := hid (show Play w w3 g v3 r1 w2.heap.size (.slice A5 d.bytes.length c5) d gl l2 w4.heap.size l from S0.out.turn S' (.inl rfl) hF hG)
                clear S' hr hF hG
                clear a0 a1 a2 af b0 b1 b2 b3 b4 bf q0 q1 q2 qf
                obtain ⟨a0, a1, a2, af⟩ := D103.out.threes
                obtain ⟨b0, b1, b2, b3, b4, bf⟩ := S3.out.blk.five
                obtain ⟨q0, q1, q2, qf⟩ := S3.out.lb.threes
                go_wp2_with fail
                refine (addR_c _ d (.slice A5 d.bytes.length c5) S3.out.rd S0.out.sl.st.disk.arm0 S0.out.sl.st.disk.arm1 S0.out.sl.st.disk.len S0.out.sl.st.disk.most1 l (by omega) (by omega) (by omega) (by omega) _ ys (HYO.out _ S3.out.sl.st.fr) _ HR.out).mono ?_
                rintro e w4 ⟨u4, he, R4, F4, G4⟩
                obtain ⟨A4, c4, rfl, hc4⟩ := R4.slice
                replace he : e = .returned (.tuple #[.agg #[.int .i64 r1.most, .slice A4 r1.bytes.length c4, .int .i64 r1.synced, .int .i64 r1.arm, .bool r1.down], .agg #[.int .i64 l2.n, .int .i64 l2.bytes, .bool l2.over], .int .i64 r3]) := he
                subst he
                have M40 := hid (Play.ref (d' := r1) (u' := .slice A4 r1.bytes.length c4) S3.out R4 F4 G4)
                have M4 := hid (M40.out.logs l2)
                have S4 := hid (S3.out.keep F4)
                clear R4 F4 G4
                clear a0 a1 a2 af b0 b1 b2 b3 b4 bf q0 q1 q2 qf
                obtain ⟨b0, b1, b2, b3, b4, bf⟩ := S4.out.blk.five
                obtain ⟨q0, q1, q2, qf⟩ := S4.out.lb.threes
                obtain ⟨t0, t1, t2, tf⟩ := M40.out.lb.threes
                obtain ⟨t3, t4, tf3, tf4⟩ := M40.out.lb.steps3 (.int .i64 l2.n) (.int .i64 l2.bytes)
                clear M40
                go_wp2_with fail
                go_meet
                exact ⟨r3, _, _, _, gl, l2, rfl, rfl, rfl, (by have h1 := HAB.out; have h2 := HY200.out; have h3 := HB.out; omega), M4⟩
            · by_cases c4 : kind = 4
              · subst c4
                clear ck
                obtain ⟨r1, hr⟩ : ∃ r, openD d = r := ⟨_, rfl⟩
                have HR := hid hr
                clear hr
                have HAB := hid (openD_bound d _ HR.out)
                go_wp2_with fail
                refine (openAny_c S0.out.sl.st.disk _ HR.out).mono ?_
                intro e w3 hr
                rcases hr with ⟨h0, hr⟩ | ⟨h0, hr⟩
                · obtain ⟨gm, vo, ps, v3, rfl, M', T', hps, F', G', hgm⟩ := SL.opened S0.out.sl.st hr
                  have D103 := hid (D10.out.keep F' (fun h => HNW.out (.inl h)))
                  have S3 := hid (S0.out.turn M' (.inr hgm) (F'.mono fun _ _ h => .inl h) G')
                  have T3 := T'.own
                  have HPS := hid hps
                  obtain ⟨Ao, co, rfl, hco⟩ := T3.rds.1.slice_
                  clear M' T' F' G' hr hps
                  clear a0 a1 a2 af b0 b1 b2 b3 b4 bf q0 q1 q2 qf
                  obtain ⟨a0, a1, a2, af⟩ := D103.out.threes
                  obtain ⟨b0, b1, b2, b3, b4, bf⟩ := S3.out.blk.five
                  obtain ⟨q0, q1, q2, qf⟩ := S3.out.lb.threes
                  go_wp2_with fail
                  refine (open_ref _ d (.slice A5 d.bytes.length c5) S3.out.rd S0.out.sl.st.disk.arm0 S0.out.sl.st.disk.arm1 (by have := S0.out.sl.st.disk.len; have := S0.out.sl.st.disk.most1; omega) _ HR.out).mono ?_
                  rintro e w4 ⟨u4, vo2, ps2, rfl, R4, F4, G4, O4, hps2⟩
                  obtain ⟨A4, c4, rfl, hc4⟩ := R4.slice
                  have S4 := hid (S3.out.keep F4)
                  clear a0 a1 a2 af b0 b1 b2 b3 b4 bf q0 q1 q2 qf
                  obtain ⟨b0, b1, b2, b3, b4, bf⟩ := ((S4.out.blk.alloc (.cells #[.int .i64 r1.1.most, .slice A4 r1.1.bytes.length c4, .int .i64 r1.1.synced, .int .i64 r1.1.arm, .bool r1.1.down] 49)).alloc (.cells #[.int .i64 (logOf r1.2.1).n, .int .i64 (logOf r1.2.1).bytes, .bool (logOf r1.2.1).over] 53)).five
                  have FA := (((Fr.refl No w4).alloc (.cells #[.int .i64 r1.1.most, .slice A4 r1.1.bytes.length c4, .int .i64 r1.1.synced, .int .i64 r1.1.arm, .bool r1.1.down] 49)).alloc (.cells #[.int .i64 (logOf r1.2.1).n, .int .i64 (logOf r1.2.1).bytes, .bool (logOf r1.2.1).over] 53))
                  have M4 := hid (S3.out.ref (R4.too FA) (F4.fresh_no FA) G4)
                  have B4 := Blk.new (w4.alloc (.cells #[.int .i64 r1.1.most, .slice A4 r1.1.bytes.length c4, .int .i64 r1.1.synced, .int .i64 r1.1.arm, .bool r1.1.down] 49)) 53 #[.int .i64 (logOf r1.2.1).n, .int .i64 (logOf r1.2.1).bytes, .bool (logOf r1.2.1).over]
                  have HPS2 := hid hps2
                  obtain ⟨Ao2, co2, rfl, hco2⟩ := O4.rds.1.slice_
                  have O5 := O4.keep_no FA
                  have T5 := T3.keep_no (F4.fresh_no FA)
                  have BB := ((S4.out.blk.alloc (.cells #[.int .i64 r1.1.most, .slice A4 r1.1.bytes.length c4, .int .i64 r1.1.synced, .int .i64 r1.1.arm, .bool r1.1.down] 49)).alloc (.cells #[.int .i64 (logOf r1.2.1).n, .int .i64 (logOf r1.2.1).bytes, .bool (logOf r1.2.1).over] 53))
                  have O6 := O5.store5 BB (by decide) (by decide) (.int .i64 r1.1.most) (.slice A4 r1.1.bytes.length c4) (.int .i64 r1.1.synced) (.int .i64 r1.1.arm) (.bool r1.1.down)
                  have T6 := T5.store5 BB (by decide) (by decide) (.int .i64 r1.1.most) (.slice A4 r1.1.bytes.length c4) (.int .i64 r1.1.synced) (.int .i64 r1.1.arm) (.bool r1.1.down)
                  rw [show (w4.alloc (.cells #[.int .i64 r1.1.most, .slice A4 r1.1.bytes.length c4, .int .i64 r1.1.synced, .int .i64 r1.1.arm, .bool r1.1.down] 49)).heap.size = w4.heap.size + 1 by simp] at B4
                  have B6 := B4.keep (store5_fr _ w2.heap.size (.int .i64 r1.1.most) (.slice A4 r1.1.bytes.length c4) (.int .i64 r1.1.synced) (.int .i64 r1.1.arm) (.bool r1.1.down)) (by have := S4.out.blk.lt; omega)
                  have M6 := M4.out
                  clear O5 T5 BB B4 M4
                  unfold refV logV
                  go_wp2_with fail
                  generalize (((((((w4.alloc (.cells #[.int .i64 r1.1.most, .slice A4 r1.1.bytes.length c4, .int .i64 r1.1.synced, .int .i64 r1.1.arm, .bool r1.1.down] 49)).alloc (.cells #[.int .i64 (logOf r1.2.1).n, .int .i64 (logOf r1.2.1).bytes, .bool (logOf r1.2.1).over] 53)).setCell ⟨w2.heap.size, 0, none⟩ (.int .i64 r1.1.most)).setCell ⟨w2.heap.size, 1, none⟩ (.slice A4 r1.1.bytes.length c4)).setCell ⟨w2.heap.size, 2, none⟩ (.int .i64 r1.1.synced)).setCell ⟨w2.heap.size, 3, none⟩ (.int .i64 r1.1.arm)).setCell ⟨w2.heap.size, 4, none⟩ (.bool r1.1.down)) = X at O6 T6 B6 M6 ⊢
                  have HLN := hid (show ps.length ≤ 4611686018427387904 by have h1 := congrArg List.length HPS.out; rw [List.length_map] at h1; have h2 := HAB.out.1; have h3 := S0.out.sl.st.disk.len; have h4 := S0.out.sl.st.disk.most1; omega)
                  refine (sameL_yes _ _ ps ps2 _ T6.rds O6.rds (by rw [HPS.out, HPS2.out]) HLN.out).mono ?_
                  rintro e w7 ⟨rfl, n7, rfl⟩
                  have M7 := hid (M6.drewN n7)
                  have B7 := B6.drewN n7
                  clear O6 T6 B6 M6 b0 b1 b2 b3 b4 bf
                  generalize X.drewN n7 = X7 at M7 B7 ⊢
                  obtain ⟨t0, t1, t2, tf⟩ := B7.threes
                  obtain ⟨q0, q1, q2, qf⟩ := M7.out.lb.threes
                  obtain ⟨t3, t4, tf3, tf4⟩ := M7.out.lb.steps3 (.int .i64 (logOf r1.2.1).n) (.int .i64 (logOf r1.2.1).bytes)
                  go_wp2_with fail
                  go_region
                  go_wp2_with fail
                  go_meet
                  exact ⟨0, _, _, _, gm, logOf r1.2.1, rfl, rfl, rfl, (by have h1 := HAB.out; have h2 := S0.out.sl.st.disk.len; have h3 := S0.out.sl.st.disk.most1; unfold logOf; dsimp only; omega), hid ((M7.out.logs (logOf r1.2.1)).keep ((Fr.refl No _).drew))⟩

                · obtain ⟨v3, rfl, I', F', G'⟩ := hr
                  have D103 := hid (D10.out.keep F' (fun h => HNW.out (.inl h)))
                  have S3 := hid (S0.out.turn (S0.out.sl.disk I' F' G') (.inl rfl) (F'.mono fun _ _ h => .inl h) G')
                  have T3 : OwnL w3 w3.heap.size (.slice none 0 0) [] := OwnL.nil _ _
                  clear I' F' G'
                  have HPS := hid (show ([] : List (Value × List UInt8)).map (·.2) = r1.2.1 from (openD_none d r1 HR.out h0).symm)
                  clear a0 a1 a2 af b0 b1 b2 b3 b4 bf q0 q1 q2 qf
                  obtain ⟨a0, a1, a2, af⟩ := D103.out.threes
                  obtain ⟨b0, b1, b2, b3, b4, bf⟩ := S3.out.blk.five
                  obtain ⟨q0, q1, q2, qf⟩ := S3.out.lb.threes
                  go_wp2_with fail
                  refine (open_ref _ d (.slice A5 d.bytes.length c5) S3.out.rd S0.out.sl.st.disk.arm0 S0.out.sl.st.disk.arm1 (by have := S0.out.sl.st.disk.len; have := S0.out.sl.st.disk.most1; omega) _ HR.out).mono ?_
                  rintro e w4 ⟨u4, vo2, ps2, rfl, R4, F4, G4, O4, hps2⟩
                  obtain ⟨A4, c4, rfl, hc4⟩ := R4.slice
                  have S4 := hid (S3.out.keep F4)
                  clear a0 a1 a2 af b0 b1 b2 b3 b4 bf q0 q1 q2 qf
                  obtain ⟨b0, b1, b2, b3, b4, bf⟩ := ((S4.out.blk.alloc (.cells #[.int .i64 r1.1.most, .slice A4 r1.1.bytes.length c4, .int .i64 r1.1.synced, .int .i64 r1.1.arm, .bool r1.1.down] 49)).alloc (.cells #[.int .i64 (logOf r1.2.1).n, .int .i64 (logOf r1.2.1).bytes, .bool (logOf r1.2.1).over] 53)).five
                  have FA := (((Fr.refl No w4).alloc (.cells #[.int .i64 r1.1.most, .slice A4 r1.1.bytes.length c4, .int .i64 r1.1.synced, .int .i64 r1.1.arm, .bool r1.1.down] 49)).alloc (.cells #[.int .i64 (logOf r1.2.1).n, .int .i64 (logOf r1.2.1).bytes, .bool (logOf r1.2.1).over] 53))
                  have M4 := hid (S3.out.ref (R4.too FA) (F4.fresh_no FA) G4)
                  have B4 := Blk.new (w4.alloc (.cells #[.int .i64 r1.1.most, .slice A4 r1.1.bytes.length c4, .int .i64 r1.1.synced, .int .i64 r1.1.arm, .bool r1.1.down] 49)) 53 #[.int .i64 (logOf r1.2.1).n, .int .i64 (logOf r1.2.1).bytes, .bool (logOf r1.2.1).over]
                  have HPS2 := hid hps2
                  obtain ⟨Ao2, co2, rfl, hco2⟩ := O4.rds.1.slice_
                  have O5 := O4.keep_no FA
                  have T5 := T3.keep_no (F4.fresh_no FA)
                  have BB := ((S4.out.blk.alloc (.cells #[.int .i64 r1.1.most, .slice A4 r1.1.bytes.length c4, .int .i64 r1.1.synced, .int .i64 r1.1.arm, .bool r1.1.down] 49)).alloc (.cells #[.int .i64 (logOf r1.2.1).n, .int .i64 (logOf r1.2.1).bytes, .bool (logOf r1.2.1).over] 53))
                  have O6 := O5.store5 BB (by decide) (by decide) (.int .i64 r1.1.most) (.slice A4 r1.1.bytes.length c4) (.int .i64 r1.1.synced) (.int .i64 r1.1.arm) (.bool r1.1.down)
                  have T6 := T5.store5 BB (by decide) (by decide) (.int .i64 r1.1.most) (.slice A4 r1.1.bytes.length c4) (.int .i64 r1.1.synced) (.int .i64 r1.1.arm) (.bool r1.1.down)
                  rw [show (w4.alloc (.cells #[.int .i64 r1.1.most, .slice A4 r1.1.bytes.length c4, .int .i64 r1.1.synced, .int .i64 r1.1.arm, .bool r1.1.down] 49)).heap.size = w4.heap.size + 1 by simp] at B4
                  have B6 := B4.keep (store5_fr _ w2.heap.size (.int .i64 r1.1.most) (.slice A4 r1.1.bytes.length c4) (.int .i64 r1.1.synced) (.int .i64 r1.1.arm) (.bool r1.1.down)) (by have := S4.out.blk.lt; omega)
                  have M6 := M4.out
                  clear O5 T5 BB B4 M4
                  unfold refV logV
                  go_wp2_with fail
                  generalize (((((((w4.alloc (.cells #[.int .i64 r1.1.most, .slice A4 r1.1.bytes.length c4, .int .i64 r1.1.synced, .int .i64 r1.1.arm, .bool r1.1.down] 49)).alloc (.cells #[.int .i64 (logOf r1.2.1).n, .int .i64 (logOf r1.2.1).bytes, .bool (logOf r1.2.1).over] 53)).setCell ⟨w2.heap.size, 0, none⟩ (.int .i64 r1.1.most)).setCell ⟨w2.heap.size, 1, none⟩ (.slice A4 r1.1.bytes.length c4)).setCell ⟨w2.heap.size, 2, none⟩ (.int .i64 r1.1.synced)).setCell ⟨w2.heap.size, 3, none⟩ (.int .i64 r1.1.arm)).setCell ⟨w2.heap.size, 4, none⟩ (.bool r1.1.down)) = X at O6 T6 B6 M6 ⊢
                  have HLN := hid (show ([] : List (Value × List UInt8)).length ≤ 4611686018427387904 by have h1 := congrArg List.length HPS.out; rw [List.length_map] at h1; have h2 := HAB.out.1; have h3 := S0.out.sl.st.disk.len; have h4 := S0.out.sl.st.disk.most1; omega)
                  refine (sameL_yes _ _ [] ps2 _ T6.rds O6.rds (by rw [HPS.out, HPS2.out]) HLN.out).mono ?_
                  rintro e w7 ⟨rfl, n7, rfl⟩
                  have M7 := hid (M6.drewN n7)
                  have B7 := B6.drewN n7
                  clear O6 T6 B6 M6 b0 b1 b2 b3 b4 bf
                  generalize X.drewN n7 = X7 at M7 B7 ⊢
                  have hb1 : ((r1.2.2 : Int) != 0) = true := by rw [bne_iff_ne]; omega
                  have hb2 : ((r1.2.2 : Int) == 0) = false := by rw [beq_eq_false_iff_ne]; omega
                  go_wp2_with fail
                  go_meet
                  exact ⟨0, _, _, _, gl, l, rfl, rfl, rfl, (by have := HB.out; omega), M7⟩
              · by_cases c5' : kind = 5
                · subst c5'
                  clear ck c4
                  obtain ⟨r1, hr⟩ : ∃ r, armD d n = r := ⟨_, rfl⟩
                  have HR := hid hr
                  clear hr
                  as_aux_lemma =>
                    go_wp2_with fail
                    refine (arm_c S0.out.sl.st.disk n HN.out _ HR.out).mono ?_
                    intro e w3 hr
                    obtain ⟨v3, rfl, S', hF⟩ := S0.out.disk0 hr
                    have D103 := hid (D10.out.keep hF (fun h => HNW.out (.inl h)))
                    have S3 := hid S'
                    clear S' hr hF
                    clear a0 a1 a2 af b0 b1 b2 b3 b4 bf q0 q1 q2 qf
                    obtain ⟨a0, a1, a2, af⟩ := D103.out.threes
                    obtain ⟨b0, b1, b2, b3, b4, bf⟩ := S3.out.blk.five
                    obtain ⟨q0, q1, q2, qf⟩ := S3.out.lb.threes
                    go_wp2_with fail
                    refine (arm_ref _ d (.slice A5 d.bytes.length c5) S3.out.rd n _ HR.out).mono ?_
                    rintro e w4 ⟨u4, rfl, R4, F4, G4⟩
                    obtain ⟨A4, c4, rfl, hc4⟩ := R4.slice
                    have M4 := hid (S3.out.ref R4 F4 G4)
                    have S4 := hid (S3.out.keep F4)
                    clear R4 F4 G4
                    clear a0 a1 a2 af b0 b1 b2 b3 b4 bf q0 q1 q2 qf
                    obtain ⟨b0, b1, b2, b3, b4, bf⟩ := S4.out.blk.five
                    unfold refV
                    go_wp2_with fail
                    go_meet
                    exact ⟨0, _, _, _, gl, l, rfl, rfl, rfl, (by have := HB.out; omega), M4⟩
                · by_cases c6 : kind = 6
                  · subst c6
                    clear ck c4 c5'
                    obtain ⟨r1, hr⟩ : ∃ r, crashD d n = r := ⟨_, rfl⟩
                    have HR := hid hr
                    clear hr
                    as_aux_lemma =>
                      go_wp2_with fail
                      refine (crash_c S0.out.sl.st.disk n _ HR.out).mono ?_
                      intro e w3 hr
                      obtain ⟨v3, rfl, S', hF⟩ := S0.out.disk0 hr
                      have D103 := hid (D10.out.keep hF (fun h => HNW.out (.inl h)))
                      have S3 := hid S'
                      clear S' hr hF
                      clear a0 a1 a2 af b0 b1 b2 b3 b4 bf q0 q1 q2 qf
                      obtain ⟨a0, a1, a2, af⟩ := D103.out.threes
                      obtain ⟨b0, b1, b2, b3, b4, bf⟩ := S3.out.blk.five
                      obtain ⟨q0, q1, q2, qf⟩ := S3.out.lb.threes
                      go_wp2_with fail
                      refine (crash_ref _ d (.slice A5 d.bytes.length c5) S3.out.rd S0.out.sl.st.disk.syn (by have := S0.out.sl.st.disk.len; have := S0.out.sl.st.disk.most1; omega) n _ HR.out).mono ?_
                      rintro e w4 ⟨u4, rfl, R4, F4, G4⟩
                      obtain ⟨A4, c4, rfl, hc4⟩ := R4.slice
                      have M4 := hid (S3.out.ref R4 F4 G4)
                      have S4 := hid (S3.out.keep F4)
                      clear R4 F4 G4
                      clear a0 a1 a2 af b0 b1 b2 b3 b4 bf q0 q1 q2 qf
                      obtain ⟨b0, b1, b2, b3, b4, bf⟩ := S4.out.blk.five
                      unfold refV
                      go_wp2_with fail
                      go_meet
                      exact ⟨0, _, _, _, gl, l, rfl, rfl, rfl, (by have := HB.out; omega), M4⟩
                  · by_cases c7 : kind = 7
                    · subst c7
                      clear ck c4 c5' c6
                      obtain ⟨⟨r1, r2⟩, hr⟩ : ∃ r, appendD d ys = r := ⟨_, rfl⟩
                      have HR := hid hr
                      clear hr
                      as_aux_lemma =>
                        go_wp2_with fail
                        refine (append_c S0.out.sl.st.disk _ ys HY.out HYG.out (by have := HY200.out; omega) _ HR.out).mono ?_
                        intro e w3 hr
                        obtain ⟨v3, rfl, S', hF⟩ := S0.out.disk hr
                        have D103 := hid (D10.out.keep hF (fun h => HNW.out (.inl h)))
                        have S3 := hid S'
                        clear S' hr hF
                        clear a0 a1 a2 af b0 b1 b2 b3 b4 bf q0 q1 q2 qf
                        obtain ⟨a0, a1, a2, af⟩ := D103.out.threes
                        obtain ⟨b0, b1, b2, b3, b4, bf⟩ := S3.out.blk.five
                        obtain ⟨q0, q1, q2, qf⟩ := S3.out.lb.threes
                        go_wp2_with fail
                        refine (append_ref _ d (.slice A5 d.bytes.length c5) S3.out.rd S0.out.sl.st.disk.arm0 S0.out.sl.st.disk.arm1 S0.out.sl.st.disk.len S0.out.sl.st.disk.most1 _ ys (HYO.out _ S3.out.sl.st.fr) (by have := HY200.out; omega) _ HR.out).mono ?_
                        rintro e w4 ⟨u4, rfl, R4, F4, G4⟩
                        obtain ⟨A4, c4, rfl, hc4⟩ := R4.slice
                        have M4 := hid (S3.out.ref R4 F4 G4)
                        have S4 := hid (S3.out.keep F4)
                        clear R4 F4 G4
                        clear a0 a1 a2 af b0 b1 b2 b3 b4 bf q0 q1 q2 qf
                        obtain ⟨b0, b1, b2, b3, b4, bf⟩ := S4.out.blk.five
                        unfold refV
                        go_wp2_with fail
                        go_meet
                        exact ⟨r2, _, _, _, gl, l, rfl, rfl, rfl, (by have := HB.out; omega), M4⟩
                    · have e1 : (kind == 1) = false := by rw [beq_eq_false_iff_ne]; omega
                      have e2 : (kind == 2) = false := by rw [beq_eq_false_iff_ne]; omega
                      have e3 : (kind == 3) = false := by rw [beq_eq_false_iff_ne]; omega
                      have e4 : (kind == 4) = false := by rw [beq_eq_false_iff_ne]; omega
                      have e5 : (kind == 5) = false := by rw [beq_eq_false_iff_ne]; omega
                      have e6 : (kind == 6) = false := by rw [beq_eq_false_iff_ne]; omega
                      have e7 : (kind == 7) = false := by rw [beq_eq_false_iff_ne]; omega
                      go_wp2_with fail
                      go_meet
                      exact ⟨0, _, _, d, gl, l, rfl, rfl, rfl, (by have := HB.out; omega), S0⟩
          case rest =>
            as_aux_lemma =>
              clear D10 S0 HNW
              obtain ⟨e, v2, u2, d2, gl2, l2, rfl, rfl, rfl, hb, M5⟩ := hcut
              obtain ⟨A6, c6', rfl, hc6⟩ := M5.out.rd.slice
              obtain ⟨b0, b1, b2, b3, b4, bf⟩ := M5.out.blk.five
              obtain ⟨q0, q1, q2, qf⟩ := M5.out.lb.threes
              have HB2 := hid hb
              clear hb
              go_wp2_with fail
              go_quiet ((first
                | (go_at_call 11; exact Calls.quiet_of_same (llen_c (M5.out.drewN _).sl.log))
                | (go_at_call 12; exact Calls.quiet_of_same (lbytes_c (M5.out.drewN _).sl.log))
                | (go_at_call 32; exact Calls.quiet_of_same (down_c (M5.out.drewN _).sl.st.disk))
                | (go_at_call 16; exact Calls.quiet_of_same (size_c (M5.out.drewN _).sl.st.disk))
                | (go_at_call 19; exact Calls.quiet_of_same (synced_c (M5.out.drewN _).sl.st.disk))))
              have M6 := hid (M5.out.drewN nq)
              clear b0 b1 b2 b3 b4 bf q0 q1 q2 qf M5
              go_wp2_with fail
              go_roundg (50 - (i + 1))
              case measure => have := HQ.out; omega
              case rel => exact ⟨i + 1, v2, _, d2, gl2, l2, rfl, by go_num, by omega, rfl, (by have := HB2.out; omega), M6⟩
        · have c6 : 200 < (ys.length : Int) := by omega
          have S7 := hid (HS.out.keep ((Fr.refl No wr).alloc (.cells #[.int .i64 kind, .int .i64 n, .slice A' ys.length c'] 57)))
          go_wp2_with fail
          go_roundg (50 - (i + 1))
          case measure => have := HQ.out; omega
          case rel => exact ⟨i + 1, v, u, d, gl, l, rfl, by go_num, by omega, rfl, (by have := HB.out; omega), S7⟩
      · have hend : ((i : Int) < os.length ∧ ¬ (i : Int) < 50) ∨ ¬ (i : Int) < os.length := by omega
        clear d1
        rcases hend with ⟨he1, he2⟩ | he1
        all_goals
          have F8 := hid (HS.out.sl.st.fr)
          go_wp2_with fail
          refine (awake_c _).mono ?_
          rintro e w8 ⟨rfl, B⟩
          have F9 := hid (F8.out.fresh_no B)
          clear B
          go_wp2_with fail
          go_ret
          exact ⟨rfl, F9.out⟩
end Go.Proofs.Ytfbhcapcnkcfdaa
