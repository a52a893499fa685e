import Derived.Test.YtfilmehekibmbaaDiskMid
import Derived.Test.YtfilmehekibmbaaDiskP
import Derived.Deep.DeepCutAuto
import Derived.Deep.CutBlock
/-! DiskPlays: through any script every answer, the bytes and the power are as the document defines. -/
namespace Go.Proofs.Ytfilmehekibmbaa
open Go.RowKit
set_option linter.unusedVariables false
set_option linter.unusedSimpArgs false

set_option maxRecDepth 100000 in
set_option maxHeartbeats 8000000 in
theorem diskPlays_c (m0 : Int) (b0 : -9223372036854775808 ≤ m0) (b1 : m0 ≤ 9223372036854775807) (y : Value) (os : List OpV) (w : World) (hy : RdO w y os) :
    Calls Try.prog 4 #[.int .i64 m0, y] w (RetT w) := by
  obtain ⟨A1, c1, rfl, q1, _⟩ := hy.1
  have HY1 := hid hy
  clear hy
  rcases (show m0 < 0 ∨ (0 ≤ m0 ∧ m0 ≤ 67108864) ∨ 67108864 < m0 by omega) with hm | ⟨h0, h1⟩ | hm
  · have hm2 : m0 < 0 ∨ m0 > 67108864 := .inl hm
    have hm3 : ¬ 67108864 < m0 := by omega
    go_enter Try.func4, Try.ntmps4
    go_wp2_with fail
    refine (new_bad _ hm2 _).mono ?_
    rintro e wx ⟨rfl, rfl⟩
    go_wp2_with fail
    refine (rnew_bad _ _ hm2).mono ?_
    rintro e w2 ⟨rfl, F2⟩
    have F3 := hid (F2.alloc (.cells #[.int .i64 0, .slice none 0 0, .int .i64 0, .int .i64 0, .bool false] 38))
    clear F2
    go_wp2_with fail
    refine (awake_c _).mono ?_
    rintro e w8 ⟨rfl, B⟩
    have F8 := hid (F3.out.fresh_no B)
    clear B
    go_wp2_with fail
    go_ret
    exact ⟨rfl, F8.out⟩
  all_goals
    have hm3 : m0 ≤ 67108864 ∨ 67108864 < m0 := by omega
    go_enter Try.func4, Try.ntmps4
    clear hm3
    go_wp2_with fail
    first
      | (obtain ⟨most, rfl⟩ : ∃ x, x = m0 := ⟨_, rfl⟩
         have HM0 : True := trivial
         have h0' : 0 ≤ most := h0)
      | (generalize hmost : m0 % 1000 = most
         have h0 : 0 ≤ most := by omega
         have h1 : most ≤ 67108864 := by omega
         have HM0 := hid hmost
         clear hmost)
    refine (new_c _ h0 h1 _).mono ?_
    rintro e w1 ⟨g, v1, rfl, I, F, hgn, hvn⟩
    have S1 := hid (St.new I F hgn hvn)
    clear I F hgn hvn
    go_wp2_with fail
    refine (rnew_c _ _ h0 h1).mono ?_
    rintro e w2 ⟨rfl, F2⟩
    have S3 := hid (show Mid w (w2.alloc (.cells #[.int .i64 most, .slice none 0 0, .int .i64 0, .int .i64 (-1), .bool false] 38)) g v1 (newD most) w2.heap.size (.slice none 0 0) (newD most) from
      ⟨(S1.out.keep F2).keep ((Fr.refl No _).alloc _), Blk.new _ _ _, RdB.nil _, Nat.le_trans S1.out.fr.size F2.size, fun h => absurd h (by simp [newD])⟩)
    clear F2 S1
    unfold refV newD
    go_wp2_with fail
    go_loopg [9] 60 (fun q v9 w' => ∃ (i : Nat) (v u : Value) (d : DSt), v9 = .int .i64 i ∧ i ≤ 60 ∧ q = 60 - i ∧ Hid (Mid w w' g v d w2.heap.size u d))
    case atStart => exact ⟨0, v1, _, newD most, rfl, by omega, rfl, S3⟩
    case round =>
      clear S3
      obtain ⟨i, v, u, d, rfl, hi, hq, HS⟩ := hrel
      have HQ := hid hq
      clear hq
      by_cases d1 : i < os.length ∧ i < 60
      · obtain ⟨d1, d2⟩ := d1
        have d3 : (i : Int) < os.length := by omega
        have d4 : (i : Int) < 60 := by omega
        obtain ⟨b, off, kind, n, A', c', ys, rfl, hz, k0, k1, k2, hok⟩ := (HY1.out.keep HS.out.st.fr).at_ d1
        have HOLD := (HY1.out.2 _ (List.mem_of_getElem? hz)).1.2
        have HYR := (HY1.out.2 _ (List.mem_of_getElem? hz)).1.1
        have HYO := hid (show ∀ w' : World, Fr No w w' → RdB w' (.slice A' ys.length c') ys from fun _ hf => HYR.fr hf)
        have HYG := hid (show 0 < ys.length → ∀ k, Of (.slice A' ys.length c') k → ¬ Its g v k from fun h0 k hk hi => by have h1 := HOLD h0 k hk; have h2 := HS.out.st.its hi; omega)
        have HN := hid hok.2.2.2.2
        clear hz hok HOLD HYR
        by_cases hc200 : ys.length ≤ 200
        · have c6 : (ys.length : Int) ≤ 200 := by omega
          go_upto_block 2 with fail
          generalize hW : wr.alloc (.cells #[.int .i64 kind, .int .i64 n, .slice A' ys.length c'] 42) = W
          have FW : Fr No wr W := by rw [← hW]; exact (Fr.refl No wr).alloc _
          have D10 := hid (show Blk W wr.heap.size 42 #[.int .i64 kind, .int .i64 n, .slice A' ys.length c'] from by rw [← hW]; exact Blk.new wr _ _)
          have S0 := hid (HS.out.keep FW)
          have HNW := hid (show ¬ Its g v wr.heap.size from fun h => absurd (HS.out.st.disk.its_lt h) (by omega))
          have HY := hid (HYO.out _ S0.out.st.fr)
          clear hW FW HS k0 k1 k2
          go_cut [11, 12] (fun s11 s12 wq => ∃ (e : Nat) (v2 u2 : Value) (d2 : DSt), s11 = .int .i64 e ∧ s12 = .int .i64 e ∧ Hid (Mid w wq g v2 d2 w2.heap.size u2 d2))
          case first =>
            as_aux_lemma =>
              obtain ⟨a0, a1, a2, af⟩ := D10.out.three
              obtain ⟨A5, c5, rfl, hc5⟩ := S0.out.rd.slice
              by_cases ck : kind = 1 ∨ kind = 2
              · obtain ⟨⟨r1, r2⟩, hr⟩ : ∃ r, appendD d ys = r := ⟨_, rfl⟩
                have HR := hid hr
                clear hr
                rcases ck with rfl | rfl
                all_goals
                  as_aux_lemma =>
                    go_wp2_with fail
                    refine (append_c S0.out.st.disk _ ys HY.out HYG.out (by omega) _ HR.out).mono ?_
                    intro e w3 hr
                    obtain ⟨v3, rfl, S', hF⟩ := S0.out.step hr
                    have D103 := hid (D10.out.keep hF HNW.out)
                    have S3 := hid S'
                    clear S' hr hF a0 a1 a2 af
                    obtain ⟨a0, a1, a2, af⟩ := D103.out.three
                    obtain ⟨b0, b1, b2, b3, b4, bf⟩ := S3.out.blk.five
                    go_wp2_with fail
                    refine (append_ref _ d (.slice A5 d.bytes.length c5) S3.out.rd S0.out.st.disk.arm0 S0.out.st.disk.arm1 S0.out.st.disk.len S0.out.st.disk.most1 _ ys (HYO.out _ S3.out.st.fr) (by omega) _ HR.out).mono ?_
                    rintro e w4 ⟨u4, rfl, R4, F4, G4⟩
                    obtain ⟨A4, c4, rfl, hc4⟩ := R4.slice
                    have M4 := hid (S3.out.ref R4 F4 G4)
                    have B4 := S3.out.blk.keep F4 (not_no _)
                    clear R4 F4 G4 b0 b1 b2 b3 b4 bf a0 a1 a2 af
                    obtain ⟨b0, b1, b2, b3, b4, bf⟩ := B4.five
                    clear B4
                    unfold refV
                    go_wp2_with fail
                    go_meet
                    exact ⟨r2, _, _, r1, rfl, rfl, M4⟩
              · by_cases c3 : kind = 3
                · subst c3
                  clear ck
                  obtain ⟨⟨r1, r2⟩, hr⟩ : ∃ r, syncD d = r := ⟨_, rfl⟩
                  have HR := hid hr
                  clear hr
                  as_aux_lemma =>
                    go_wp2_with fail
                    refine (sync_c S0.out.st.disk _ HR.out).mono ?_
                    intro e w3 hr
                    obtain ⟨v3, rfl, S', hF⟩ := S0.out.step hr
                    have D103 := hid (D10.out.keep hF HNW.out)
                    have S3 := hid S'
                    clear S' hr hF a0 a1 a2 af
                    obtain ⟨a0, a1, a2, af⟩ := D103.out.three
                    obtain ⟨b0, b1, b2, b3, b4, bf⟩ := S3.out.blk.five
                    go_wp2_with fail
                    refine (sync_ref _ d (.slice A5 d.bytes.length c5) S3.out.rd S0.out.st.disk.arm0 S0.out.st.disk.arm1 _ HR.out).mono ?_
                    rintro e w4 ⟨u4, rfl, R4, F4, G4⟩
                    obtain ⟨A4, c4, rfl, hc4⟩ := R4.slice
                    have M4 := hid (S3.out.ref R4 F4 G4)
                    have B4 := S3.out.blk.keep F4 (not_no _)
                    clear R4 F4 G4 b0 b1 b2 b3 b4 bf a0 a1 a2 af
                    obtain ⟨b0, b1, b2, b3, b4, bf⟩ := B4.five
                    clear B4
                    unfold refV
                    go_wp2_with fail
                    go_meet
                    exact ⟨r2, _, _, r1, rfl, rfl, M4⟩
                · by_cases c4 : kind = 4
                  · subst c4
                    clear ck c3
                    obtain ⟨⟨r1, r2⟩, hr⟩ : ∃ r, cutD d n = r := ⟨_, rfl⟩
                    have HR := hid hr
                    clear hr
                    as_aux_lemma =>
                      go_wp2_with fail
                      refine (cut_c S0.out.st.disk n _ HR.out).mono ?_
                      intro e w3 hr
                      obtain ⟨v3, rfl, S', hF⟩ := S0.out.step hr
                      have D103 := hid (D10.out.keep hF HNW.out)
                      have S3 := hid S'
                      clear S' hr hF a0 a1 a2 af
                      obtain ⟨a0, a1, a2, af⟩ := D103.out.three
                      obtain ⟨b0, b1, b2, b3, b4, bf⟩ := S3.out.blk.five
                      go_wp2_with fail
                      refine (cut_ref _ d (.slice A5 d.bytes.length c5) S3.out.rd S0.out.st.disk.arm0 S0.out.st.disk.arm1 (by have := S0.out.st.disk.len; have := S0.out.st.disk.most1; omega) n _ HR.out).mono ?_
                      rintro e w4 ⟨u4, rfl, R4, F4, G4⟩
                      obtain ⟨A4, c4, rfl, hc4⟩ := R4.slice
                      have M4 := hid (S3.out.ref R4 F4 G4)
                      have B4 := S3.out.blk.keep F4 (not_no _)
                      clear R4 F4 G4 b0 b1 b2 b3 b4 bf a0 a1 a2 af
                      obtain ⟨b0, b1, b2, b3, b4, bf⟩ := B4.five
                      clear B4
                      unfold refV
                      go_wp2_with fail
                      go_meet
                      exact ⟨r2, _, _, r1, rfl, rfl, M4⟩
                  · by_cases c5' : kind = 5
                    · subst c5'
                      clear ck c3 c4
                      obtain ⟨r1, hr⟩ : ∃ r, armD d n = r := ⟨_, rfl⟩
                      have HR := hid hr
                      clear hr
                      as_aux_lemma =>
                        go_wp2_with fail
                        refine (arm_c S0.out.st.disk n HN.out _ HR.out).mono ?_
                        intro e w3 hr
                        obtain ⟨v3, rfl, S', hF⟩ := S0.out.step0 hr
                        have D103 := hid (D10.out.keep hF HNW.out)
                        have S3 := hid S'
                        clear S' hr hF a0 a1 a2 af
                        obtain ⟨a0, a1, a2, af⟩ := D103.out.three
                        obtain ⟨b0, b1, b2, b3, b4, bf⟩ := S3.out.blk.five
                        go_wp2_with fail
                        refine (arm_ref _ d (.slice A5 d.bytes.length c5) S3.out.rd n _ HR.out).mono ?_
                        rintro e w4 ⟨u4, rfl, R4, F4, G4⟩
                        obtain ⟨A4, c4, rfl, hc4⟩ := R4.slice
                        have M4 := hid (S3.out.ref R4 F4 G4)
                        have B4 := S3.out.blk.keep F4 (not_no _)
                        clear R4 F4 G4 b0 b1 b2 b3 b4 bf a0 a1 a2 af
                        obtain ⟨b0, b1, b2, b3, b4, bf⟩ := B4.five
                        clear B4
                        unfold refV
                        go_wp2_with fail
                        go_meet
                        exact ⟨0, _, _, r1, rfl, rfl, M4⟩
                    · by_cases c6 : kind = 6
                      · subst c6
                        clear ck c3 c4 c5'
                        obtain ⟨r1, hr⟩ : ∃ r, crashD d n = r := ⟨_, rfl⟩
                        have HR := hid hr
                        clear hr
                        as_aux_lemma =>
                          go_wp2_with fail
                          refine (crash_c S0.out.st.disk n _ HR.out).mono ?_
                          intro e w3 hr
                          obtain ⟨v3, rfl, S', hF⟩ := S0.out.step0 hr
                          have D103 := hid (D10.out.keep hF HNW.out)
                          have S3 := hid S'
                          clear S' hr hF a0 a1 a2 af
                          obtain ⟨a0, a1, a2, af⟩ := D103.out.three
                          obtain ⟨b0, b1, b2, b3, b4, bf⟩ := S3.out.blk.five
                          go_wp2_with fail
                          refine (crash_ref _ d (.slice A5 d.bytes.length c5) S3.out.rd S0.out.st.disk.syn (by have := S0.out.st.disk.len; have := S0.out.st.disk.most1; omega) n _ HR.out).mono ?_
                          rintro e w4 ⟨u4, rfl, R4, F4, G4⟩
                          obtain ⟨A4, c4, rfl, hc4⟩ := R4.slice
                          have M4 := hid (S3.out.ref R4 F4 G4)
                          have B4 := S3.out.blk.keep F4 (not_no _)
                          clear R4 F4 G4 b0 b1 b2 b3 b4 bf a0 a1 a2 af
                          obtain ⟨b0, b1, b2, b3, b4, bf⟩ := B4.five
                          clear B4
                          unfold refV
                          go_wp2_with fail
                          go_meet
                          exact ⟨0, _, _, r1, rfl, rfl, M4⟩
                      · have e1 : (kind == 1) = false := by rw [beq_eq_false_iff_ne]; omega
                        have e2 : (kind == 2) = false := by rw [beq_eq_false_iff_ne]; omega
                        have e3 : (kind == 3) = false := by rw [beq_eq_false_iff_ne]; omega
                        have e4 : (kind == 4) = false := by rw [beq_eq_false_iff_ne]; omega
                        have e5 : (kind == 5) = false := by rw [beq_eq_false_iff_ne]; omega
                        have e6 : (kind == 6) = false := by rw [beq_eq_false_iff_ne]; omega
                        go_wp2_with fail
                        go_meet
                        exact ⟨0, _, _, d, rfl, rfl, S0⟩
          case rest =>
            as_aux_lemma =>
              clear D10 S0 HNW
              obtain ⟨e, v2, u2, d2, rfl, rfl, M⟩ := hcut
              obtain ⟨A6, c6', rfl, hc6⟩ := M.out.rd.slice
              obtain ⟨⟨q1, q2⟩, hrd⟩ : ∃ r, readD d2 = r := ⟨_, rfl⟩
              have HRD := hid hrd
              clear hrd
              go_wp2_with fail
              refine (read_c M.out.st.disk _ HRD.out).mono ?_
              rintro e w5 ⟨v5, rfl, O5, F5, G5⟩
              replace O5 : OwnB 5 w5 v5 q1 := O5
              obtain ⟨A7, c7, rfl, hc7⟩ := O5.slice
              have M5 := hid (M.out.keep F5)
              have HO5 := hid O5
              clear M F5 G5 O5
              obtain ⟨b0, b1, b2, b3, b4, bf⟩ := M5.out.blk.five
              cases hdn : d2.down
              · have hq : q1 = d2.bytes ∧ q2 = 0 := by have h := HRD.out; unfold readD at h; rw [hdn] at h; simp at h; exact ⟨h.1.symm, h.2.symm⟩
                obtain ⟨rfl, rfl⟩ := hq
                rw [hdn] at b4
                have HD := hid hdn
                clear hdn HRD
                go_wp2_with fail
                go_quiet ((first
                  | (go_at_call 27; exact Calls.quiet_of_same ((down_c (M5.out.st.disk.drewN _)).mono (fun _ _ h => ⟨h.1.trans (by rw [HD.out]), h.2⟩)))
                  | (go_at_call 28; exact Calls.quiet_of_same (size_c (M5.out.st.disk.drewN _)))
                  | (go_at_call 16; exact Calls.quiet_of_same (synced_c (M5.out.st.disk.drewN _)))
                  | (go_at_call 29; exact Calls.quiet_of_same (same_yes _ _ d2.bytes _ (HO5.out.rd.drewN _) (M5.out.rd.drewN _)))))
                have M6 := hid (M5.out.keep ((Fr.refl No _).drewN nq))
                clear b0 b1 b2 b3 b4 bf M5 HO5 HD
                go_wp2_with fail
                go_roundg (60 - (i + 1))
                case measure => have := HQ.out; omega
                case rel => exact ⟨i + 1, v2, _, d2, by go_num, by omega, rfl, M6⟩
              · have hq : q1 = [] ∧ q2 = 15 := by have h := HRD.out; unfold readD at h; rw [hdn] at h; simp at h; exact ⟨h.1, h.2.symm⟩
                obtain ⟨rfl, rfl⟩ := hq
                rw [hdn] at b4
                have HD := hid hdn
                clear hdn HRD
                go_wp2_with fail
                go_quiet ((first
                  | (go_at_call 27; exact Calls.quiet_of_same ((down_c (M5.out.st.disk.drewN _)).mono (fun _ _ h => ⟨h.1.trans (by rw [HD.out]), h.2⟩)))
                  | (go_at_call 28; exact Calls.quiet_of_same (size_c (M5.out.st.disk.drewN _)))
                  | (go_at_call 16; exact Calls.quiet_of_same (synced_c (M5.out.st.disk.drewN _)))))
                have M6 := hid (M5.out.keep ((Fr.refl No _).drewN nq))
                clear b0 b1 b2 b3 b4 bf M5 HO5 HD
                go_wp2_with fail
                go_roundg (60 - (i + 1))
                case measure => have := HQ.out; omega
                case rel => exact ⟨i + 1, v2, _, d2, by go_num, by omega, rfl, M6⟩
        · have c6 : 200 < (ys.length : Int) := by omega
          have S7 := hid (HS.out.keep ((Fr.refl No wr).alloc (.cells #[.int .i64 kind, .int .i64 n, .slice A' ys.length c'] 42)))
          go_wp2_with fail
          go_roundg (60 - (i + 1))
          case measure => have := HQ.out; omega
          case rel => exact ⟨i + 1, v, u, d, by go_num, by omega, rfl, S7⟩
      · have hend : ((i : Int) < os.length ∧ ¬ (i : Int) < 60) ∨ ¬ (i : Int) < os.length := by omega
        clear d1
        rcases hend with ⟨he1, he2⟩ | he1
        all_goals
          have F8 := hid (HS.out.st.fr)
          go_wp2_with fail
          refine (awake_c _).mono ?_
          rintro e w8 ⟨rfl, B⟩
          have F9 := hid (F8.out.fresh_no B)
          clear B
          go_wp2_with fail
          go_ret
          exact ⟨rfl, F9.out⟩
end Go.Proofs.Ytfilmehekibmbaa
