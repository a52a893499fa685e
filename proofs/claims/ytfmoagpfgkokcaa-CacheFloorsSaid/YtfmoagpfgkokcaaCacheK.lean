import Derived.Test.YtfmoagpfgkokcaaCacheJ
/-! An entry with one need. -/
namespace Go.Proofs.Ytfmoagpfgkokcaa
open Go.RowKit
set_option linter.unusedVariables false
set_option linter.unusedSimpArgs false

theorem RdN.one (w : World) (z : Int) : RdN (w.alloc (.cells #[.int .i64 z, .int .u32 0] 48)) (.slice (some ⟨w.heap.size, 0, none⟩) 1 1) [z] := (lit_ok w 0 0 0 0 0 z).1
set_option maxRecDepth 100000 in
set_option maxHeartbeats 2000000 in
theorem coded1_c (w : World) (ver ep till fn n : Int) (b o c : Nat) (hc : w.cell? ⟨b, o, none⟩ = some (.int .i64 n)) (hb : b < w.heap.size) (h1 : 1 ≤ c) :
    Calls Try.prog 9 #[.int .i64 ver, .int .i64 ep, .int .i64 till, .int .i64 fn, .slice (some ⟨b, o, none⟩) 1 c] w fun en w' => ∃ nv, en = .returned (Ev.mk ver ep till fn 1 [n] nv).val ∧ (Ev.mk ver ep till fn 1 [n] nv).ok w' ∧ Fr No w w' ∧ ∀ x, Of nv x → w.heap.size ≤ x := by
  obtain ⟨W, hW⟩ : ∃ W, (w.alloc (.cells #[.int .i64 0, .int .i64 0, .int .i64 0, .int .i64 0, .int .i64 0, .slice none 0 0, .slice none 0 0, .slice none 0 0] 28)).alloc (.cells #[.int .i64 ver, .int .i64 ep, .int .i64 till, .int .i64 fn, .int .i64 1, .slice none 0 0, .slice none 0 0, .slice none 0 0] 28) = W := ⟨_, rfl⟩
  have HW := hid hW
  have FW := hid (show Fr No w W from hW ▸ ((Fr.refl No w).alloc _).alloc _)
  have HX := hid (show Blk W w.heap.size 28 #[.int .i64 0, .int .i64 0, .int .i64 0, .int .i64 0, .int .i64 0, .slice none 0 0, .slice none 0 0, .slice none 0 0] from hW ▸ (Blk.new w _ _).alloc _)
  have HY := hid (show Blk W (w.heap.size + 1) 28 #[.int .i64 ver, .int .i64 ep, .int .i64 till, .int .i64 fn, .int .i64 1, .slice none 0 0, .slice none 0 0, .slice none 0 0] from hW ▸ by
    have := Blk.new (w.alloc (.cells #[.int .i64 0, .int .i64 0, .int .i64 0, .int .i64 0, .int .i64 0, .slice none 0 0, .slice none 0 0, .slice none 0 0] 28)) 28 #[.int .i64 ver, .int .i64 ep, .int .i64 till, .int .i64 fn, .int .i64 1, .slice none 0 0, .slice none 0 0, .slice none 0 0]
    rwa [show (w.alloc (.cells #[.int .i64 0, .int .i64 0, .int .i64 0, .int .i64 0, .int .i64 0, .slice none 0 0, .slice none 0 0, .slice none 0 0] 28)).heap.size = w.heap.size + 1 by simp] at this)
  have k0 : W.cell? ⟨b, o, none⟩ = some (.int .i64 n) := (FW.out.cell hb (not_no _) o).trans hc
  clear hW hc
  go_enter Try.func9, Try.ntmps9
  go_upto_region 2 with fail
  rw [HW.out]
  go_wp2_with fail
  have R1 := hid (RdN.one W n)
  have FA := hid ((Fr.refl No W).alloc (.cells #[.int .i64 n, .int .u32 0] 48))
  have y7 := HY.out.cell 7
  have y7' := (HY.out.alloc (.cells #[.int .i64 n, .int .u32 0] 48)).cell 7
  refine wp_loop_rounds 2 ?_
  unfold Code.rounds
  go_wp2_with (at_builtin; refine wpl_app _ rfl (.tmp 28) (.tmp 31) _ rfl 48 (.agg #[.int .i64 0, .int .u32 0]) 2 16 Try.underlying24 infoN (by rfl) _ 0 [] rfl (Own.nil _ _ _) _ 1 (ncells [n]) rfl R1.out (ncells_one _) (by decide) (by decide) ?_; intro v1 w1 O1 F1 G1; obtain ⟨A1, c1', rfl, _, _⟩ := O1.slice; have HO1 := hid O1; have HG1 := hid G1; have HF1 := hid (FA.out.fresh_nil F1); have HX1 := hid (HX.out.keep HF1.out (not_no _)); have HY1 := hid (HY.out.keep HF1.out (not_no _)); clear y7 y7' O1 F1 G1; have y0 := HY1.out.cell 0; have y1 := HY1.out.cell 1; have y2 := HY1.out.cell 2; have y3 := HY1.out.cell 3; have y4 := HY1.out.cell 4; have y5 := HY1.out.cell 5; have y6 := HY1.out.cell 6; have y7 := HY1.out.cell 7; have yf := HY1.out.frozen; have HXS := HX1.out.far (p := ⟨w.heap.size + 1, 7, none⟩) (by simp) (.slice A1 (0 + 1) c1'); have x0 := HXS.cell 0; have x1 := HXS.cell 1; have x2 := HXS.cell 2; have x3 := HXS.cell 3; have x4 := HXS.cell 4; have x5 := HXS.cell 5; have x6 := HXS.cell 6; have x7 := HXS.cell 7; have xf := HXS.frozen; clear HXS)
  unfold Code.rounds
  go_wp2_with fail
  refine ⟨rfl, ?_⟩
  refine ⟨(Ev.mk ver ep till fn 1 [n] (.slice A1 1 c1')).val, ?_, ?_⟩
  · have hres : Try.f9.results = #[.cell 10 28] := rfl
    simp [results, hres, asAddr]
    try go_simp
    try rfl
  · have FS : Fr (fun x => x = w.heap.size ∨ x = w.heap.size + 1) w1 (((((((((w1.setCell ⟨w.heap.size + 1, 7, none⟩ (.slice A1 1 c1')).setCell ⟨w.heap.size, 0, none⟩ (.int .i64 ver)).setCell ⟨w.heap.size, 1, none⟩ (.int .i64 ep)).setCell ⟨w.heap.size, 2, none⟩ (.int .i64 till)).setCell ⟨w.heap.size, 3, none⟩ (.int .i64 fn)).setCell ⟨w.heap.size, 4, none⟩ (.int .i64 1)).setCell ⟨w.heap.size, 5, none⟩ (.slice none 0 0)).setCell ⟨w.heap.size, 6, none⟩ (.slice none 0 0)).setCell ⟨w.heap.size, 7, none⟩ (.slice A1 1 c1')) := by
      iterate 8 refine Fr.setCell (S := fun x => x = w.heap.size ∨ x = w.heap.size + 1) ?_ (fun _ => .inl rfl) _
      refine Fr.setCell (S := fun x => x = w.heap.size ∨ x = w.heap.size + 1) ?_ (fun _ => .inr rfl) _
      exact Fr.refl _ _
    have hnew : ∀ x, Of (.slice A1 1 c1') x → W.heap.size ≤ x := fun x hx => (HG1.out x hx).elim (fun h => absurd h Of_none) (fun h => by rw [h]; exact (FA.out).size)
    have hWs : w.heap.size + 1 < W.heap.size := HY.out.lt
    have hO : Own 48 2 (((((((((w1.setCell ⟨w.heap.size + 1, 7, none⟩ (.slice A1 1 c1')).setCell ⟨w.heap.size, 0, none⟩ (.int .i64 ver)).setCell ⟨w.heap.size, 1, none⟩ (.int .i64 ep)).setCell ⟨w.heap.size, 2, none⟩ (.int .i64 till)).setCell ⟨w.heap.size, 3, none⟩ (.int .i64 fn)).setCell ⟨w.heap.size, 4, none⟩ (.int .i64 1)).setCell ⟨w.heap.size, 5, none⟩ (.slice none 0 0)).setCell ⟨w.heap.size, 6, none⟩ (.slice none 0 0)).setCell ⟨w.heap.size, 7, none⟩ (.slice A1 1 c1')) (.slice A1 1 c1') 1 (ncells [n]) := (show Own 48 2 w1 (.slice A1 1 c1') 1 (ncells [n]) from by simpa using HO1.out).keep FS (fun x hx e => by have := hnew x hx; omega)
    refine ⟨_, rfl, ⟨hO.rd, by show 1 ≤ 1000; decide, fun x hx => ⟨hO.lt x hx, ?_⟩⟩, (FW.out.fresh_no HF1.out).fresh FS (fun x hx => by omega), fun x hx => Nat.le_trans FW.out.size (hnew x hx)⟩
    rcases hO.2 with ⟨h0, _⟩ | ⟨g', cap, cur, hv, hb', _⟩
    · rw [h0] at hx; exact absurd hx Of_none
    · injection hv with hv _ _
      have hxg : x = g' := by rw [hv] at hx; exact Of_some.1 hx
      subst hxg
      exact ⟨_, hb'⟩
end Go.Proofs.Ytfmoagpfgkokcaa
