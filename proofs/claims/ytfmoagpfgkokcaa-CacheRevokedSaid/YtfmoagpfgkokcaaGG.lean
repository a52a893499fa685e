import Derived.Test.YtfmoagpfgkokcaaGF
/-! Get. -/
namespace Go.Proofs.Ytfmoagpfgkokcaa
open Go.RowKit
set_option linter.unusedVariables false
set_option linter.unusedSimpArgs false

def zeroFast : Value := .agg #[.int .i64 0, .int .i64 0, .slice none 0 0, .slice none 0 0, .slice none 0 0]
def has (k : K2) (tick : Int) (ms : List (K2 × Ev)) : Bool := (getE k ms).isSome && decide (tick < (wasE k ms).till)
def RetGet (w : World) (k : K2) (tick : Int) (ms : List (K2 × Ev)) : Ending → World → Prop := fun en w' =>
  (has k tick ms = true ∧ (∃ cv' xv' v', en = .returned (.tuple #[.agg #[.int .i64 (wasE k ms).fn, .int .i64 (wasE k ms).regs, cv', xv', v'], .bool true]) ∧ CopyAt w.heap.size w' (wasE k ms).code (wasE k ms).exits (wasE k ms).needs cv' xv' v') ∧ Fr No w w') ∨ (has k tick ms = false ∧ en = .returned (.tuple #[zeroFast, .bool false]) ∧ Fr No w w')
set_option maxRecDepth 100000 in
set_option maxHeartbeats 4000000 in
theorem get_c {w : World} {g b fb : Nat} {ms : List (K2 × Ev)} {fs : List (Int × Int)} (h : IsC w g b fb ms fs) (ver fn tick : Int) :
    Calls Try.prog 12 #[.pointer (some ⟨g, 0, none⟩), .int .i64 ver, .int .i64 fn, .int .i64 tick] w (RetGet w (ver, fn) tick ms) := by
  obtain ⟨W, hW⟩ : ∃ W, w.alloc (.cells #[.int .i64 0, .int .i64 0, .slice none 0 0, .slice none 0 0, .slice none 0 0] 26) = W := ⟨_, rfl⟩
  have HW := hid hW
  have FW := hid (show Fr No w W from hW ▸ (Fr.refl No w).alloc _)
  have HY := hid (show Blk W w.heap.size 26 #[.int .i64 0, .int .i64 0, .slice none 0 0, .slice none 0 0, .slice none 0 0] from hW ▸ Blk.new w _ _)
  have H := hid (h.keep FW.out)
  have hl := look2 H.out.map (ver, fn)
  have HWO := hid (wasE_ok H.out (ver, fn))
  obtain ⟨c0, c1, cf⟩ := H.out.blk.pair
  clear hW h
  unfold RetGet has
  generalize (getE (ver, fn) ms).isSome = some_ at hl ⊢
  generalize wasE (ver, fn) ms = was at hl HWO ⊢
  obtain ⟨Aw, cw, Awc, nwc, cwc, Awx, nwx, cwx, hvw, hvwc, hvwx⟩ := Ev.slice HWO.out
  obtain ⟨b0, b1, b2, b3, b4, cdw, cvw, exw, xvw, nsw, nvw⟩ := was
  replace hvw : nvw = .slice Aw nsw.length cw := hvw
  replace hvwc : cvw = .slice Awc nwc cwc := hvwc
  replace hvwx : xvw = .slice Awx nwx cwx := hvwx
  subst hvw hvwc hvwx
  unfold Ev.val Ev.cells enc2 at hl
  dsimp only at hl ⊢
  have HL := hid hl
  go_enter Try.func12, Try.ntmps12
  go_upto_region 1 with fail
  rw [HW.out]
  go_wp2_with fail
  refine (right_yes H.out.blk).mono ?_
  rintro en wx ⟨rfl, rfl⟩
  have HWB := hid (Blk.new wx 28 #[.int .i64 b0, .int .i64 b1, .int .i64 b2, .int .i64 b3, .int .i64 b4, .slice Awc nwc cwc, .slice Awx nwx cwx, .slice Aw nsw.length cw])
  have HYB := hid (HY.out.alloc (.cells #[.int .i64 b0, .int .i64 b1, .int .i64 b2, .int .i64 b3, .int .i64 b4, .slice Awc nwc cwc, .slice Awx nwx cwx, .slice Aw nsw.length cw] 28))
  have FB := hid (FW.out.alloc (.cells #[.int .i64 b0, .int .i64 b1, .int .i64 b2, .int .i64 b3, .int .i64 b4, .slice Awc nwc cwc, .slice Awx nwx cwx, .slice Aw nsw.length cw] 28))
  have m0 := HYB.out.cell 0
  have m1 := HYB.out.cell 1
  have m2 := HYB.out.cell 2
  have m3 := HYB.out.cell 3
  have m4 := HYB.out.cell 4
  have mf := HYB.out.frozen
  rcases (show some_ = false ∨ (some_ = true ∧ (b2 ≤ tick ∨ tick < b2)) by cases some_ with | false => exact .inl rfl | true => exact .inr ⟨rfl, by omega⟩) with rfl | ⟨rfl, d | d⟩
  · go_wp2_with fail
    refine ⟨rfl, ?_⟩
    refine ⟨.tuple #[zeroFast, .bool false], ?_, ?_⟩
    · have hres : Try.f12.results = #[.cell 8 26, .tmp 9] := rfl
      simp [results, hres, asAddr]
      try go_simp
      try rfl
    · refine .inr ⟨rfl, rfl, ?_⟩
      iterate 5 refine Fr.setCell ?_ (fun h => absurd h (by simp)) _
      exact FB.out
  · have d2 : ¬ tick < b2 := by omega
    have D := hid d2
    go_wp2_with fail
    refine ⟨rfl, ?_⟩
    refine ⟨.tuple #[zeroFast, .bool false], ?_, ?_⟩
    · have hres : Try.f12.results = #[.cell 8 26, .tmp 9] := rfl
      simp [results, hres, asAddr]
      try go_simp
      try rfl
    · refine .inr ⟨by rw [decide_eq_false (show ¬ tick < b2 by have := D.out; omega)]; rfl, rfl, ?_⟩
      iterate 5 refine Fr.setCell ?_ (fun h => absurd h (by simp)) _
      exact FB.out
  · have d2 : ¬ b2 ≤ tick := by omega
    have D := hid d
    clear m0 m1 m2 m3 m4 mf
    go_wp2_with fail
    have HWA := hid (HWO.out.keep ((Fr.refl No _).alloc (.cells #[.int .i64 b0, .int .i64 b1, .int .i64 b2, .int .i64 b3, .int .i64 b4, .slice Awc nwc cwc, .slice Awx nwx cwx, .slice Aw nsw.length cw] 28)))
    refine (copied_c _ b3 b4 _ _ _ cdw exw nsw HWA.out.cd HWA.out.cl HWA.out.ex HWA.out.xl HWA.out.nd HWA.out.nl).mono ?_
    rintro en w2 ⟨cv2, xv2, v2, rfl, cp2⟩
    obtain ⟨A2, c2, rfl, _, _⟩ := cp2.nd.slice
    obtain ⟨Ad, cdc, rfl, _, _⟩ := cp2.cd.slice
    obtain ⟨_, _, ⟨Ay, cy, rfl, _⟩, _⟩ := cp2.ex.ex
    have HCP2 := hid cp2
    have F2 := hid (FB.out.fresh_no cp2.fr)
    have HY2 := hid (HYB.out.keep cp2.fr (not_no _))
    clear cp2 hl
    have m0 := HY2.out.cell 0
    have m1 := HY2.out.cell 1
    have m2 := HY2.out.cell 2
    have m3 := HY2.out.cell 3
    have m4 := HY2.out.cell 4
    have mf := HY2.out.frozen
    go_wp2_with fail
    refine ⟨rfl, ?_⟩
    refine ⟨.tuple #[.agg #[.int .i64 b3, .int .i64 b4, .slice Ad cdw.length cdc, .slice Ay exw.length cy, .slice A2 nsw.length c2], .bool true], ?_, ?_⟩
    · have hres : Try.f12.results = #[.cell 8 26, .tmp 9] := rfl
      simp [results, hres, asAddr]
      try go_simp
      try rfl
    · have FS : Fr (fun x => x = w.heap.size) w2 (((((w2.setCell ⟨w.heap.size, 0, none⟩ (.int .i64 b3)).setCell ⟨w.heap.size, 1, none⟩ (.int .i64 b4)).setCell ⟨w.heap.size, 2, none⟩ (.slice Ad cdw.length cdc)).setCell ⟨w.heap.size, 3, none⟩ (.slice Ay exw.length cy)).setCell ⟨w.heap.size, 4, none⟩ (.slice A2 nsw.length c2)) := by
        iterate 5 refine Fr.setCell (S := fun x => x = w.heap.size) ?_ (fun _ => rfl) _
        exact Fr.refl _ _
      have hlt := HYB.out.lt
      exact .inl ⟨by rw [decide_eq_true D.out]; rfl, ⟨_, _, _, rfl, (HCP2.out.at_.keep FS (fun x e => by rw [e]; exact hlt)).older FB.out.size⟩, F2.out.fresh FS (fun x e => by omega)⟩
end Go.Proofs.Ytfmoagpfgkokcaa
