import Derived.Test.YtfmoagpfgkokcaaCacheC
/-! Code copied. -/
namespace Go.Proofs.Ytfmoagpfgkokcaa
open Go.RowKit
set_option linter.unusedVariables false
set_option linter.unusedSimpArgs false

/-- code in memory of its own -/
def RetCopy (w : World) (fn regs : Int) (l : List Int) : Ending → World → Prop := fun e w' => ∃ v', e = .returned (.agg #[.int .i64 fn, .int .i64 regs, .slice none 0 0, .slice none 0 0, v']) ∧ OwnN w' v' l ∧ Fr No w w' ∧ ∀ x, Of v' x → w.heap.size ≤ x
set_option maxRecDepth 100000 in
set_option maxHeartbeats 4000000 in
theorem copied_c (w : World) (fn regs : Int) (v : Value) (l : List Int) (hv : RdN w v l) (hl : l.length ≤ 1000) :
    Calls Try.prog 28 #[.agg #[.int .i64 fn, .int .i64 regs, .slice none 0 0, .slice none 0 0, v]] w (RetCopy w fn regs l) := by
  have HV0 := hid hv
  obtain ⟨A, c, rfl, hc, _⟩ := hv
  obtain ⟨W, hW⟩ : ∃ W, (w.alloc (.cells #[.int .i64 fn, .int .i64 regs, .slice none 0 0, .slice none 0 0, .slice A l.length c] 26)).alloc (.cells #[.int .i64 0, .int .i64 0, .slice none 0 0, .slice none 0 0, .slice none 0 0] 26) = W := ⟨_, rfl⟩
  have HW := hid hW
  have FW := hid (show Fr No w W from hW ▸ ((Fr.refl No w).alloc _).alloc _)
  have HX := hid (show Blk W w.heap.size 26 #[.int .i64 fn, .int .i64 regs, .slice none 0 0, .slice none 0 0, .slice A l.length c] from hW ▸ (Blk.new w _ _).alloc _)
  have HY := hid (show Blk W (w.heap.size + 1) 26 #[.int .i64 0, .int .i64 0, .slice none 0 0, .slice none 0 0, .slice none 0 0] from hW ▸ by
    have := Blk.new (w.alloc (.cells #[.int .i64 fn, .int .i64 regs, .slice none 0 0, .slice none 0 0, .slice A l.length c] 26)) 26 #[.int .i64 0, .int .i64 0, .slice none 0 0, .slice none 0 0, .slice none 0 0]
    rwa [show (w.alloc (.cells #[.int .i64 fn, .int .i64 regs, .slice none 0 0, .slice none 0 0, .slice A l.length c] 26)).heap.size = w.heap.size + 1 by simp] at this)
  have HV := hid (HV0.out.keep FW.out)
  have HL := hid hl
  have x0 := HX.out.cell 0
  have x1 := HX.out.cell 1
  have x2 := HX.out.cell 2
  have x3 := HX.out.cell 3
  have x4 := HX.out.cell 4
  have xf := HX.out.frozen
  clear hW hl
  go_enter Try.func28, Try.ntmps28
  go_upto_region 1 with fail
  rw [HW.out]
  have k2 := HX.out.drew.cell 2
  have k4 := HX.out.drew.cell 4
  go_region_with (first
    | (go_at_call 37; refine (cloneS_nil _).mono ?_; rintro e wq ⟨rfl, rfl⟩)
    | (go_at_call 38
       refine (cloneN_c _ _ l (HV.out.keep (by repeat (first | exact Fr.refl _ _ | refine Fr.drew ?_))) HL.out).mono ?_
       rintro e w3 ⟨v3, rfl, o3, f3, g3⟩
       obtain ⟨A3, c3, rfl, _, _⟩ := o3.slice
       have HO3 := hid o3
       have HG3 := hid g3
       have F3 := hid (show Fr No W w3 from Fr.fresh_no (by repeat (first | exact Fr.refl _ _ | refine Fr.drew ?_)) f3)
       have HX3 := hid (HX.out.keep F3.out (not_no _))
       have HY3 := hid (HY.out.keep F3.out (not_no _))
       have y0 := HX3.out.cell 0
       have y1 := HX3.out.cell 1
       have y2 := HX3.out.cell 2
       have y3 := HX3.out.cell 3
       have y4 := HX3.out.cell 4
       have yf := HX3.out.frozen
       have r0 := HY3.out.cell 0
       have r1 := HY3.out.cell 1
       have r2 := HY3.out.cell 2
       have r3 := HY3.out.cell 3
       have r4 := HY3.out.cell 4
       have rf := HY3.out.frozen
       clear o3 f3 g3))
  all_goals
    have HX4 := hid ((HX3.out.set_ 2 (.slice none 0 0)).set_ 4 (.slice A3 l.length c3))
    have HY4 := hid ((HY3.out.far (p := ⟨w.heap.size, 2, none⟩) (by simp) (.slice none 0 0)).far (p := ⟨w.heap.size, 4, none⟩) (by simp) (.slice A3 l.length c3))
    have HNW := hid (show ∀ x, Of (.slice A3 l.length c3) x → x ≠ w.heap.size ∧ x ≠ w.heap.size + 1 from fun x hx => by have h1 := HG3.out x hx; have h2 := HX.out.lt; have h3 := HY.out.lt; have h4 : W.drew.heap.size = W.heap.size := rfl; constructor <;> omega)
    have F4 := hid (show Fr (fun x => x = w.heap.size) w3 ((w3.setCell ⟨w.heap.size, 2, none⟩ (.slice none 0 0)).setCell ⟨w.heap.size, 4, none⟩ (.slice A3 l.length c3)) from by
      iterate 2 refine Fr.setCell (S := fun x => x = w.heap.size) ?_ (fun _ => rfl) _
      exact Fr.refl _ _)
    clear y0 y1 y2 y3 y4 yf r0 r1 r2 r3 r4 rf x0 x1 x2 x3 x4 xf k2 k4
    generalize (w3.setCell ⟨w.heap.size, 2, none⟩ (.slice none 0 0)).setCell ⟨w.heap.size, 4, none⟩ (.slice A3 l.length c3) = Y at HX4 HY4 F4 ⊢
    have x0 := HX4.out.cell 0
    have x1 := HX4.out.cell 1
    have x2 := HX4.out.cell 2
    have x3 := HX4.out.cell 3
    have x4 := HX4.out.cell 4
    have xf := HX4.out.frozen
    have HY5 := HY4.out.far (p := ⟨w.heap.size, 3, none⟩) (by simp) (.slice none 0 0)
    have r0 := HY5.cell 0
    have r1 := HY5.cell 1
    have r2 := HY5.cell 2
    have r3 := HY5.cell 3
    have r4 := HY5.cell 4
    have rf := HY5.frozen
    clear HY5
    go_wp2_with fail
    refine wp_loop_rounds 1 ?_
    unfold Code.rounds
    go_wp2_with fail
    refine ⟨rfl, ?_⟩
    refine ⟨.agg #[.int .i64 fn, .int .i64 regs, .slice none 0 0, .slice none 0 0, .slice A3 l.length c3], ?_, ?_⟩
    · have hres : Try.f28.results = #[.cell 2 26] := rfl
      simp [results, hres, asAddr]
      try go_simp
      try rfl
    · have FS : Fr (fun x => x = w.heap.size ∨ x = w.heap.size + 1) w3 ((((((Y.setCell ⟨w.heap.size, 3, none⟩ (.slice none 0 0)).setCell ⟨w.heap.size + 1, 0, none⟩ (.int .i64 fn)).setCell ⟨w.heap.size + 1, 1, none⟩ (.int .i64 regs)).setCell ⟨w.heap.size + 1, 2, none⟩ (.slice none 0 0)).setCell ⟨w.heap.size + 1, 3, none⟩ (.slice none 0 0)).setCell ⟨w.heap.size + 1, 4, none⟩ (.slice A3 l.length c3)) := by
        iterate 5 refine Fr.setCell (S := fun x => x = w.heap.size ∨ x = w.heap.size + 1) ?_ (fun _ => .inr rfl) _
        refine Fr.setCell (S := fun x => x = w.heap.size ∨ x = w.heap.size + 1) ?_ (fun _ => .inl rfl) _
        exact F4.out.mono (fun x _ h => .inl h)
      have hd : W.drew.heap.size = W.heap.size := rfl
      refine ⟨_, rfl, HO3.out.keep FS (fun x hx e => by have := HNW.out x hx; omega), (FW.out.fresh_no F3.out).fresh FS (fun x hx => by omega), fun x hx => Nat.le_trans FW.out.size (HG3.out x hx)⟩
end Go.Proofs.Ytfmoagpfgkokcaa
