import Derived.Test.YtfmoagpfgkokcaaCacheI
import Derived.Test.YtfmoagpfgkokcaaRowKit
import Derived.Deep.Strs
/-! CacheNone. -/
namespace Go.Proofs.Ytfmoagpfgkokcaa
open Go.RowKit Go.ChangeShapes Go.WideShapes
set_option linter.unusedVariables false
set_option linter.unusedSimpArgs false

set_option maxRecDepth 100000 in
set_option maxHeartbeats 400000 in
theorem get_none {w : World} {v : Value} (h : NoC w v) (a b c : Value) : Calls Try.prog 12 #[v, a, b, c] w fun e w' => e = .returned (.tuple #[zeroFast, .bool false]) ∧ Fr No w w' := by
  have H := hid h
  clear h
  go_enter Try.func12, Try.ntmps12
  go_wp2_with fail
  refine (right_none (H.out.keep ((Fr.refl No w).alloc _))).mono ?_
  rintro e wx ⟨rfl, rfl⟩
  go_wp2_with fail
  refine ⟨rfl, ?_⟩
  refine ⟨.tuple #[zeroFast, .bool false], ?_, ?_⟩
  · have hres : Try.f12.results = #[.cell 8 26, .tmp 9] := rfl
    simp [results, hres, asAddr]
    try go_simp
    try rfl
  · refine ⟨rfl, ?_⟩
    repeat (first | refine Fr.setCell ?_ (fun h => absurd h (by simp)) _ | refine Fr.alloc ?_ _ | exact Fr.refl _ _)
set_option maxRecDepth 100000 in
set_option maxHeartbeats 400000 in
theorem put_none {w : World} {v : Value} (h : NoC w v) (a b c d e f g i : Value) : Calls Try.prog 11 #[v, .agg #[a, b, c, d, e, f, g, i]] w fun en w' => en = .returned (.bool false) ∧ Fr No w w' := by
  have H := hid h
  clear h
  go_enter Try.func11, Try.ntmps11
  go_wp2_with fail
  refine (right_none (H.out.keep ((Fr.refl No w).alloc _))).mono ?_
  rintro en wx ⟨rfl, rfl⟩
  go_wp2_with fail
  go_ret
  exact ⟨rfl, (Fr.refl No w).alloc _⟩
set_option maxRecDepth 100000 in
set_option maxHeartbeats 400000 in
theorem revoke_none {w : World} {v : Value} (h : NoC w v) (a b : Value) : Calls Try.prog 17 #[v, a, b] w fun e w' => e = .returned (.int .i64 0) ∧ w' = w := by
  have H := hid h
  clear h
  go_enter Try.func17, Try.ntmps17
  go_wp2_with fail
  refine (right_none H.out).mono ?_
  rintro e wx ⟨rfl, rfl⟩
  go_wp2_with fail
  go_ret
  exact ⟨rfl, rfl⟩
set_option maxRecDepth 100000 in
set_option maxHeartbeats 400000 in
theorem expire_none {w : World} {v : Value} (h : NoC w v) (a : Int) : Calls Try.prog 15 #[v, .int .i64 a] w fun e w' => e = .returned (.int .i64 0) ∧ Fr No w w' := by
  have H := hid h
  clear h
  go_enter Try.func15, Try.ntmps15
  go_wp2_with fail
  refine (right_none (H.out.keep ((Fr.refl No w).alloc _))).mono ?_
  rintro e wx ⟨rfl, rfl⟩
  go_wp2_with fail
  go_ret
  exact ⟨rfl, (Fr.refl No w).alloc _⟩
set_option maxRecDepth 100000 in
set_option maxHeartbeats 400000 in
theorem len_none {w : World} {v : Value} (h : NoC w v) : Calls Try.prog 13 #[v] w fun e w' => e = .returned (.int .i64 0) ∧ w' = w := by
  have H := hid h
  clear h
  go_enter Try.func13, Try.ntmps13
  go_wp2_with fail
  refine (right_none H.out).mono ?_
  rintro e wx ⟨rfl, rfl⟩
  go_wp2_with fail
  go_ret
  exact ⟨rfl, rfl⟩
set_option maxRecDepth 100000 in
set_option maxHeartbeats 400000 in
theorem rests_none {w : World} {v : Value} (h : NoC w v) (a b : Value) : Calls Try.prog 16 #[v, a, b] w fun e w' => e = .returned (.bool false) ∧ w' = w := by
  have H := hid h
  clear h
  go_enter Try.func16, Try.ntmps16
  go_wp2_with fail
  refine (right_none H.out).mono ?_
  rintro e wx ⟨rfl, rfl⟩
  go_wp2_with fail
  go_ret
  exact ⟨rfl, rfl⟩
set_option maxRecDepth 100000 in
theorem index_two (p q : Value) (w : World) : (Instr.index 68 (.agg #[p, q]) (.int .i64 0)).run Try.prog w = .ok p w ∧ (Instr.index 68 (.agg #[p, q]) (.int .i64 1)).run Try.prog w = .ok q w := by
  have hu := Try.underlying68
  constructor
  · simp [Instr.index, run_underlying hu, go_sem]
  · simp [Instr.index, run_underlying hu, go_sem]
section
variable {H : Type} {enc : TypeId × Value → H} {P : Program} {w : World} {base : Nat} {held : Bool} {spare : Nat → Bool}
theorem twelve (l : List Value) (h : l.length = 12) : ∃ a b c d e f g i j k m n, l = [a, b, c, d, e, f, g, i, j, k, m, n] := by
  match l, h with
  | [a, b, c, d, e, f, g, i, j, k, m, n], _ => exact ⟨a, b, c, d, e, f, g, i, j, k, m, n, rfl⟩
theorem twelve_ints {t : TypeId} {f0 f1 f2 f3 f4 : Field} {es : Array Field} {g0 : Field} {fuel : Nat} {c0 c1 c2 c3 c4 c5 c6 c7 c8 c9 c10 c11 : Value} {x : DataW H × List MemPlace} (ht : P.underlying t = some (.struct #[f0, f1, f2, f3, f4]))
    (hi : ∀ g ∈ [f1, f2, f3], P.underlying g.type = some (.int .i64) ∧ P.cellsOf g.type = 1) (ho : f1.offset = 1 ∧ f2.offset = 2 ∧ f3.offset = 3 ∧ f4.offset = 4)
    (he : P.underlying f4.type = some (.struct es)) (hce : P.cellsOf f4.type = 8) (hg0 : es[0]? = some g0) (hgi : P.underlying g0.type = some (.int .i64) ∧ P.cellsOf g0.type = 1) (hgo : g0.offset = 0)
    (h : DataW.trod enc P w base spare held fuel t [c0, c1, c2, c3, c4, c5, c6, c7, c8, c9, c10, c11] = some x) :
    ∃ z1 z2 z3 z4, c1 = .int .i64 z1 ∧ c2 = .int .i64 z2 ∧ c3 = .int .i64 z3 ∧ c4 = .int .i64 z4 := by
  obtain ⟨xs, n, _, _, _, hlen, hg⟩ := DataW.trod_struct ht h
  have h5 : xs.length = 5 := by simpa using hlen
  have one : ∀ (i : Nat) (g : Field) (v : Value), i < 5 → (#[f0, f1, f2, f3, f4] : Array Field)[i]? = some g → g ∈ [f1, f2, f3] → g.offset = i → ([c0, c1, c2, c3, c4, c5, c6, c7, c8, c9, c10, c11].drop i).take 1 = [v] → ∃ z, v = .int .i64 z := fun i g v hi6 hgi hm hoff hd => by
    have h3 := hg i g hgi
    rw [(hi g hm).2, hoff, List.getElem?_eq_getElem (by omega), hd] at h3
    obtain ⟨z, hz, _⟩ := i64_of_trod (w := w) (hi g hm).1 h3
    exact ⟨z, by simpa using hz⟩
  obtain ⟨z1, h1⟩ := one 1 f1 c1 (by omega) rfl (by simp) ho.1 rfl
  obtain ⟨z2, h2⟩ := one 2 f2 c2 (by omega) rfl (by simp) ho.2.1 rfl
  obtain ⟨z3, h3⟩ := one 3 f3 c3 (by omega) rfl (by simp) ho.2.2.1 rfl
  have h4 := hg 4 f4 rfl
  rw [hce, ho.2.2.2, List.getElem?_eq_getElem (by omega)] at h4
  obtain ⟨ys, m, _, _, _, hlen2, hg2⟩ := DataW.trod_struct he h4
  have h6 := hg2 0 g0 hg0
  have hys : 0 < ys.length := by
    rw [hlen2]
    rcases Nat.eq_zero_or_pos es.size with h | h
    · rw [Array.getElem?_eq_none (by omega)] at hg0; cases hg0
    · exact h
  rw [hgi.2, hgo, List.getElem?_eq_getElem hys] at h6
  obtain ⟨z4, hz4, _⟩ := i64_of_trod (w := w) hgi.1 h6
  exact ⟨z1, z2, z3, z4, h1, h2, h3, by simpa using hz4⟩
set_option maxRecDepth 100000 in
theorem op_of_trod {cs : Array Value} {d : DataW H} {p : List MemPlace} (hs : cs.size = 12) (h : DataW.Trod enc Try.prog w base spare held 57 (.agg cs) d p) : ∃ c0 z1 z2 z3 z4 c5 c6 c7 c8 c9 c10 c11, cs = #[c0, .int .i64 z1, .int .i64 z2, .int .i64 z3, .int .i64 z4, c5, c6, c7, c8, c9, c10, c11] := by
  obtain ⟨l⟩ := cs
  obtain ⟨c0, c1, c2, c3, c4, c5, c6, c7, c8, c9, c10, c11, rfl⟩ := twelve l hs
  obtain ⟨fuel, hf⟩ := h
  obtain ⟨z1, z2, z3, z4, rfl, rfl, rfl, rfl⟩ := twelve_ints Try.underlying57 (by intro g hg; simp at hg; rcases hg with rfl | rfl | rfl <;> exact ⟨Try.underlying3, by kernel_rfl⟩) ⟨rfl, rfl, rfl, rfl⟩ Try.underlying28 (by kernel_rfl) rfl ⟨Try.underlying3, by kernel_rfl⟩ rfl hf
  exact ⟨c0, z1, z2, z3, z4, c5, c6, c7, c8, c9, c10, c11, rfl⟩
end
set_option maxRecDepth 100000 in
set_option maxHeartbeats 1000000 in
theorem cacheNone_c (c0 c5 c6 c7 c8 c9 c10 c11 : Value) (z1 z2 z3 z4 : Int) (w : World) : Calls Try.prog 8 #[.agg #[c0, .int .i64 z1, .int .i64 z2, .int .i64 z3, .int .i64 z4, c5, c6, c7, c8, c9, c10, c11]] w (RetT w) := by
  go_enter Try.func8, Try.ntmps8
  go_wp2_with fail
  go_loopg [12] 2 (fun q v12 w' => ∃ i : Nat, v12 = .int .i64 i ∧ i ≤ 2 ∧ q = 2 - i ∧ Hid (Blk w' w.heap.size 57 #[c0, .int .i64 z1, .int .i64 z2, .int .i64 z3, .int .i64 z4, c5, c6, c7, c8, c9, c10, c11]) ∧ Hid (NoC w' (.pointer (some ⟨w.heap.size + 1, 0, none⟩))) ∧ Hid (Fr No w w'))
  case atStart =>
    refine ⟨0, rfl, by omega, rfl, (Blk.new w _ _).alloc _, .inr ⟨_, rfl, ?_⟩, ((Fr.refl No w).alloc _).alloc _⟩
    have := Blk.new (w.alloc (.cells #[c0, .int .i64 z1, .int .i64 z2, .int .i64 z3, .int .i64 z4, c5, c6, c7, c8, c9, c10, c11] 57)) 67 #[.map none, .map none]
    rwa [show (w.alloc (.cells #[c0, .int .i64 z1, .int .i64 z2, .int .i64 z3, .int .i64 z4, c5, c6, c7, c8, c9, c10, c11] 57)).heap.size = w.heap.size + 1 by simp] at this
  case round =>
    obtain ⟨i, rfl, hi, hq, HM, HB, HF⟩ := hrel
    have HQ := hid hq
    clear hq
    rcases (show i = 0 ∨ i = 1 ∨ i = 2 by omega) with rfl | rfl | rfl
    · have N0 := hid (show NoC wr (.pointer none) from .inl rfl)
      have k1 := HM.out.cell 1
      have k3 := HM.out.cell 3
      have k4 := HM.out.cell 4
      obtain ⟨hx0, hx1⟩ := index_two (.pointer none) (.pointer (some ⟨w.heap.size + 1, 0, none⟩)) wr
      go_wp2_with fail
      refine (get_none N0.out _ _ _).mono ?_
      rintro e1 w1 ⟨rfl, F⟩
      have F1 := hid (F.alloc (.cells #[.int .i64 0, .int .i64 0, .slice none 0 0, .slice none 0 0, .slice none 0 0] 26))
      have HX1 := hid (Blk.new w1 26 #[.int .i64 0, .int .i64 0, .slice none 0 0, .slice none 0 0, .slice none 0 0])
      have HM1 := hid (HM.out.keep F1.out (not_no _))
      have HB1 := hid (HB.out.keep F1.out)
      have N1 := hid (N0.out.keep F1.out)
      have j4 := HM1.out.cell 4
      have j5 := HM1.out.cell 5
      have j6 := HM1.out.cell 6
      have j7 := HM1.out.cell 7
      have j8 := HM1.out.cell 8
      have j9 := HM1.out.cell 9
      have j10 := HM1.out.cell 10
      have j11 := HM1.out.cell 11
      clear F k1 k3 k4 hx0 hx1
      unfold zeroFast
      go_wp2_with fail
      refine (put_none N1.out _ _ _ _ _ _ _ _).mono ?_
      rintro e1 w2 ⟨rfl, F⟩
      have F2 := hid F
      have HM2 := hid (HM1.out.keep F2.out (not_no _))
      have HB2 := hid (HB1.out.keep F2.out)
      have N2 := hid (N1.out.keep F2.out)
      have x2 := (HX1.out.keep F2.out (not_no _)).cell 2
      have i1 := HM2.out.cell 1
      have i2 := HM2.out.cell 2
      have i3 := HM2.out.cell 3
      clear F j4 j5 j6 j7 j8 j9 j10 j11
      go_wp2_with fail
      refine (revoke_none N2.out _ _).mono ?_
      rintro e1 wx ⟨rfl, rfl⟩
      go_wp2_with fail
      refine (expire_none N2.out z3).mono ?_
      rintro e1 w3 ⟨rfl, F⟩
      have F3 := hid F
      have HM3 := hid (HM2.out.keep F3.out (not_no _))
      have HB3 := hid (HB2.out.keep F3.out)
      have N3 := hid (N2.out.keep F3.out)
      have l1 := HM3.out.cell 1
      have l2 := HM3.out.cell 2
      clear F i1 i2 i3 x2
      go_wp2_with fail
      refine (len_none N3.out).mono ?_
      rintro e1 wx ⟨rfl, rfl⟩
      go_wp2_with fail
      refine (rests_none N3.out _ _).mono ?_
      rintro e1 wx ⟨rfl, rfl⟩
      have HF4 := hid (((HF.out.fresh_no F1.out).fresh_no F2.out).fresh_no F3.out)
      go_wp2_with fail
      go_roundg (2 - (1))
      case measure => have := HQ.out; omega
      case rel => exact ⟨1, rfl, by omega, rfl, HM3, HB3, HF4⟩
    · have N0 := HB
      have k1 := HM.out.cell 1
      have k3 := HM.out.cell 3
      have k4 := HM.out.cell 4
      obtain ⟨hx0, hx1⟩ := index_two (.pointer none) (.pointer (some ⟨w.heap.size + 1, 0, none⟩)) wr
      go_wp2_with fail
      refine (get_none N0.out _ _ _).mono ?_
      rintro e1 w1 ⟨rfl, F⟩
      have F1 := hid (F.alloc (.cells #[.int .i64 0, .int .i64 0, .slice none 0 0, .slice none 0 0, .slice none 0 0] 26))
      have HX1 := hid (Blk.new w1 26 #[.int .i64 0, .int .i64 0, .slice none 0 0, .slice none 0 0, .slice none 0 0])
      have HM1 := hid (HM.out.keep F1.out (not_no _))
      have HB1 := hid (HB.out.keep F1.out)
      have N1 := hid (N0.out.keep F1.out)
      have j4 := HM1.out.cell 4
      have j5 := HM1.out.cell 5
      have j6 := HM1.out.cell 6
      have j7 := HM1.out.cell 7
      have j8 := HM1.out.cell 8
      have j9 := HM1.out.cell 9
      have j10 := HM1.out.cell 10
      have j11 := HM1.out.cell 11
      clear F k1 k3 k4 hx0 hx1
      unfold zeroFast
      go_wp2_with fail
      refine (put_none N1.out _ _ _ _ _ _ _ _).mono ?_
      rintro e1 w2 ⟨rfl, F⟩
      have F2 := hid F
      have HM2 := hid (HM1.out.keep F2.out (not_no _))
      have HB2 := hid (HB1.out.keep F2.out)
      have N2 := hid (N1.out.keep F2.out)
      have x2 := (HX1.out.keep F2.out (not_no _)).cell 2
      have i1 := HM2.out.cell 1
      have i2 := HM2.out.cell 2
      have i3 := HM2.out.cell 3
      clear F j4 j5 j6 j7 j8 j9 j10 j11
      go_wp2_with fail
      refine (revoke_none N2.out _ _).mono ?_
      rintro e1 wx ⟨rfl, rfl⟩
      go_wp2_with fail
      refine (expire_none N2.out z3).mono ?_
      rintro e1 w3 ⟨rfl, F⟩
      have F3 := hid F
      have HM3 := hid (HM2.out.keep F3.out (not_no _))
      have HB3 := hid (HB2.out.keep F3.out)
      have N3 := hid (N2.out.keep F3.out)
      have l1 := HM3.out.cell 1
      have l2 := HM3.out.cell 2
      clear F i1 i2 i3 x2
      go_wp2_with fail
      refine (len_none N3.out).mono ?_
      rintro e1 wx ⟨rfl, rfl⟩
      go_wp2_with fail
      refine (rests_none N3.out _ _).mono ?_
      rintro e1 wx ⟨rfl, rfl⟩
      have HF4 := hid (((HF.out.fresh_no F1.out).fresh_no F2.out).fresh_no F3.out)
      go_wp2_with fail
      go_roundg (2 - (2))
      case measure => have := HQ.out; omega
      case rel => exact ⟨2, rfl, by omega, rfl, HM3, HB3, HF4⟩
    · go_wp2_with fail
      refine (awake_c _).mono ?_
      rintro e1 w7 ⟨rfl, f7⟩
      have HF7 := hid (HF.out.fresh_no f7)
      go_wp2_with fail
      go_ret
      exact ⟨rfl, HF7.out⟩
end Go.Proofs.Ytfmoagpfgkokcaa
