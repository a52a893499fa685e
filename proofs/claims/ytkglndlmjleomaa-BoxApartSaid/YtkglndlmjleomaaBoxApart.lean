import Derived.Test.YtkglndlmjleomaaBoxL
/-! BoxApart. -/
namespace Go.Proofs.Ytkglndlmjleomaa
open Go.RowKit
set_option linter.unusedVariables false
set_option linter.unusedSimpArgs false

set_option maxRecDepth 100000 in
set_option maxHeartbeats 1000000 in
theorem boxApart_c (a : Nat) (ha : a ≤ 255) (y : Value) (zs : List Int) (w : World) (hy : RdI w y zs) : Calls Try.prog 3 #[.int .u8 a, y] w (RetT w) := by
  obtain ⟨A1, c1, rfl, q1, _⟩ := hy.1
  have HY := hid hy
  clear hy
  go_enter Try.func3, Try.ntmps3
  go_wp2_with fail
  obtain ⟨n, hn⟩ : ∃ n : Nat, (1 : Int) + (a : Int) % 64 = n := ⟨1 + a % 64, by omega⟩
  have n1 : 1 ≤ n := by omega
  have n2 : n ≤ 64 := by omega
  rw [hn]
  clear hn
  refine (new_b _ n (by omega) (by omega)).mono ?_
  rintro e w1 ⟨g, S, rfl, b1, f1, s1⟩
  go_wp2_with fail
  refine (new_b _ n (by omega) (by omega)).mono ?_
  rintro e w2 ⟨g2, S2, rfl, b2, f2, s2⟩
  have HT0 := hid (show Two w w2 g g2 n (fun _ => []) (fun _ => []) S S2 from ⟨b1.keep0 f2, b2, f1.fresh_no f2, s1, fun x hx => Nat.le_trans f1.size (s2 x hx), fun x h1 h2 => by have := b1.lt x h1; have := s2 x h2; omega⟩)
  clear b1 f1 s1 b2 f2 s2
  go_wp2_with fail
  go_loopg [10] 60 (fun q v10 w' => ∃ (i : Nat) (f f1 : Int → List MailA) (S S1 : Nat → Prop), v10 = .int .i64 i ∧ i ≤ 60 ∧ q = 60 - i ∧ Hid (Two w w' g g2 n f f1 S S1) ∧ Hid (f1 1 = f 1) ∧ Hid (Bound n f) ∧ Hid (Bound n f1))
  case atStart => exact ⟨0, _, _, S, S2, rfl, by omega, rfl, HT0, rfl, fun k => by simp, fun k => by simp⟩
  case round =>
    clear HT0
    obtain ⟨i, f, f1, S, S1, rfl, hi, hq, HT, H1, HB, HB1⟩ := hrel
    have HQ := hid hq
    clear hq
    by_cases d1 : i < zs.length ∧ i < 60
    · obtain ⟨d1, d2⟩ := d1
      have d3 : (i : Int) < zs.length := by omega
      have d4 : (i : Int) < 60 := by omega
      obtain ⟨b, off, z, rfl, k0, hz, z1, z2⟩ := (HY.out.keep HT.out.fr).at_ d1
      have t1 := Int.emod_nonneg z (show (4 : Int) ≠ 0 by omega)
      have t2 := Int.emod_lt_of_pos z (show (0 : Int) < 4 by omega)
      go_wp2_with fail
      refine (pick_c z 4 z1 z2 (by omega) (by omega) _).mono ?_
      rintro e wx ⟨rfl, rfl⟩
      clear k0 hz z1 z2
      generalize z % 4 = to at t1 t2 ⊢
      by_cases d5 : (i : Int) % 3 = 2
      · go_wp2_with fail
        refine (take_any HT.out.a HB.out (by omega) to).mono ?_
        rintro e w3 ⟨S3, rfl, b3, f3, s3⟩
        have HT3 := hid (HT.out.toA b3 f3 s3)
        have HB3 := hid (HB.out.take to)
        clear b3 f3 s3
        by_cases d6 : to = 1
        · subst d6
          have H3 := hid (show setF f1 1 (takeL (f1 1)).2.2 1 = setF f 1 (takeL (f 1)).2.2 1 by rw [setF_eq, setF_eq, H1.out])
          have HB4 := hid (HB1.out.take 1)
          rw [H1.out] at H3 HB4
          generalize hm : takeL (f 1) = r at HT3 HB3 H3 HB4 ⊢
          obtain ⟨m, ok, l⟩ := r
          have HM := hid hm
          clear hm
          have HT4 := hid (HT3.out.keep ((Fr.refl No w3).alloc (.cells #[.int .i64 m.from_, .int .i64 m.seq, .int .i64 m.by_, .int .i64 m.to, .string m.tag, .slice none 0 0] 30)))
          have HX3 := hid (Blk.new w3 30 #[.int .i64 m.from_, .int .i64 m.seq, .int .i64 m.by_, .int .i64 m.to, .string m.tag, .slice none 0 0])
          have HNX := hid (show ¬ S1 w3.heap.size from fun h => absurd (HT3.out.b.lt _ h) (by omega))
          dsimp only
          unfold MailA.cells
          go_wp2_with fail
          refine (take_any HT4.out.b HB1.out (by omega) 1).mono ?_
          rw [H1.out, HM.out]
          rintro e w4 ⟨S4, rfl, b4, f4, s4⟩
          have HT5 := hid (HT4.out.swap.toA b4 f4 s4).swap
          have HX4 := hid (HX3.out.keep f4 HNX.out)
          clear b4 f4 s4
          dsimp only
          have HT6 := hid (HT5.out.keep ((Fr.refl No w4).alloc (.cells #[.int .i64 m.from_, .int .i64 m.seq, .int .i64 m.by_, .int .i64 m.to, .string m.tag, .slice none 0 0] 30)))
          have HX5 := HX4.out.alloc (.cells #[.int .i64 m.from_, .int .i64 m.seq, .int .i64 m.by_, .int .i64 m.to, .string m.tag, .slice none 0 0] 30)
          have c0 := HX5.cell 0
          have c1' := HX5.cell 1
          have c2 := HX5.cell 2
          have c3 := HX5.cell 3
          have c4 := HX5.cell 4
          have c5 := HX5.cell 5
          clear HX5
          unfold MailA.cells
          go_wp2_with fail
          refine (same_m _ m).mono ?_
          rintro e w5 ⟨rfl, f5⟩
          have HT7 := hid (HT6.out.keep f5)
          clear f5
          go_wp2_with fail
          go_roundg (60 - (i + 1))
          case measure => have := HQ.out; omega
          case rel => exact ⟨i + 1, _, _, S3, S4, by go_num, by omega, rfl, HT7, H3, HB3, HB4⟩
        · have H3 := hid (show f1 1 = setF f to (takeL (f to)).2.2 1 by rw [setF_ne f _ (fun e => d6 e.symm)]; exact H1.out)
          generalize takeL (f to) = r at HT3 HB3 H3 ⊢
          obtain ⟨m, ok, l⟩ := r
          dsimp only
          unfold MailA.cells
          have HT4 := hid (HT3.out.keep ((Fr.refl No w3).alloc (.cells #[.int .i64 m.from_, .int .i64 m.seq, .int .i64 m.by_, .int .i64 m.to, .string m.tag, .slice none 0 0] 30)))
          go_wp2_with fail
          go_roundg (60 - (i + 1))
          case measure => have := HQ.out; omega
          case rel => exact ⟨i + 1, _, f1, S3, S1, by go_num, by omega, rfl, HT4, H3, HB3, HB1⟩
      · have HTX := hid (HT.out.keep ((Fr.refl No wx).alloc (.cells #[.int .i64 0, .int .i64 i, .int .i64 0, .int .i64 to, .string ⟨#[116]⟩, .slice none 0 0] 30)))
        have HMX := hid (Blk.new wx 30 #[.int .i64 0, .int .i64 i, .int .i64 0, .int .i64 to, .string ⟨#[116]⟩, .slice none 0 0])
        have HNX := hid (show ¬ S wx.heap.size from fun h => absurd (HT.out.a.lt _ h) (by omega))
        go_wp2_with fail
        refine (put_any HTX.out.a (by omega) ⟨0, i, 0, to, ⟨#[116]⟩⟩ (by show 1 ≤ 255; decide)).mono ?_
        rintro e w3 ⟨S3, rfl, b3, f3, s3⟩
        have HT3 := hid (HTX.out.toA b3 f3 s3)
        have HB3 := hid (HB.out.put to ⟨0, i, 0, to, ⟨#[116]⟩⟩)
        have HM3 := hid (HMX.out.keep f3 HNX.out)
        have c0 := HM3.out.cell 0
        have c1' := HM3.out.cell 1
        have c2 := HM3.out.cell 2
        have c3 := HM3.out.cell 3
        have c4 := HM3.out.cell 4
        have c5 := HM3.out.cell 5
        clear b3 f3 s3
        dsimp only
        by_cases d6 : to = 1
        · subst d6
          go_wp2_with fail
          refine (put_any HT3.out.b (by omega) ⟨0, i, 0, 1, ⟨#[116]⟩⟩ (by show 1 ≤ 255; decide)).mono ?_
          rintro e w4 ⟨S4, rfl, b4, f4, s4⟩
          have HT4 := hid (HT3.out.swap.toA b4 f4 s4).swap
          have H4 := hid (show setF f1 1 (putL n (f1 1) ⟨0, i, 0, 1, ⟨#[116]⟩⟩) 1 = setF f 1 (putL n (f 1) ⟨0, i, 0, 1, ⟨#[116]⟩⟩) 1 by rw [setF_eq, setF_eq, H1.out])
          have HB4 := hid (HB1.out.put 1 ⟨0, i, 0, 1, ⟨#[116]⟩⟩)
          clear b4 f4 s4
          dsimp only
          rw [H1.out]
          go_wp2_with fail
          go_roundg (60 - (i + 1))
          case measure => have := HQ.out; omega
          case rel => exact ⟨i + 1, _, _, S3, S4, by go_num, by omega, rfl, HT4, H4, HB3, HB4⟩
        · have H3 := hid (show f1 1 = setF f to (putL n (f to) ⟨0, i, 0, to, ⟨#[116]⟩⟩) 1 by rw [setF_ne f _ (fun e => d6 e.symm)]; exact H1.out)
          go_wp2_with fail
          go_roundg (60 - (i + 1))
          case measure => have := HQ.out; omega
          case rel => exact ⟨i + 1, _, f1, S3, S1, by go_num, by omega, rfl, HT3, H3, HB3, HB1⟩
    · have d3 : ¬ ((i : Int) < zs.length ∧ (i : Int) < 60) := by omega
      have E1 := hid (show ((f1 1).length : Int) = ((f 1).length : Int) by rw [H1.out])
      rcases (show ¬ (i : Int) < zs.length ∨ ((i : Int) < zs.length ∧ ¬ (i : Int) < 60) by omega) with d4 | ⟨d4, d5⟩
      all_goals
        clear d1 d3
        go_wp2_with fail
        refine (len_b HT.out.a 1).mono ?_
        rintro e wx ⟨rfl, rfl⟩
        go_wp2_with fail
        refine (len_b HT.out.b 1).mono ?_
        rintro e wx ⟨rfl, rfl⟩
        rw [E1.out]
        go_wp2_with fail
        refine (awake_c _).mono ?_
        rintro e w7 ⟨rfl, f7⟩
        have HF7 := hid (HT.out.fr.fresh_no f7)
        go_wp2_with fail
        go_ret
        exact ⟨rfl, HF7.out⟩
end Go.Proofs.Ytkglndlmjleomaa
