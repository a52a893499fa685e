import Derived.Test.YtkglndlmjleomaaBoxF
/-! Len and Look, actor by actor. -/
namespace Go.Proofs.Ytkglndlmjleomaa
open Go.RowKit
set_option linter.unusedVariables false
set_option linter.unusedSimpArgs false

theorem IsBox.len_c {w : World} {g b : Nat} {n : Int} {ms : List (Int × Value)} {f : Int → List MailA} (h : IsBox w g b n ms f) (to : Int) :
    Calls Try.prog 14 #[.pointer (some ⟨g, 0, none⟩), .int .i64 to] w fun e w' => e = .returned (.int .i64 (f to).length) ∧ w' = w := by
  obtain ⟨A, cap, hrow, _, _⟩ := (h.row to).slice
  exact Go.Proofs.Ytkglndlmjleomaa.len_c h.blk h.map to A _ cap hrow
theorem look_nobody {w : World} {g b : Nat} {n : Int} {ms : List (Int × Value)} {f : Int → List MailA} (h : IsBox w g b n ms f) (to : Int) (h0 : f to = []) :
    Calls Try.prog 20 #[.pointer (some ⟨g, 0, none⟩), .int .i64 to] w fun e w' => e = .returned (.tuple #[mail0, .bool false]) ∧ Fr No w w' := by
  have H := hid h
  have HL := hid (show ((f to).length : Int) = 0 by rw [h0]; rfl)
  clear h
  go_enter Try.func20, Try.ntmps20
  go_wp2_with fail
  refine ((H.out.keep ((Fr.refl No w).alloc _)).len_c to).mono ?_
  rintro e wx ⟨rfl, rfl⟩
  rw [HL.out]
  go_wp2_with fail
  refine ⟨rfl, ?_⟩
  refine ⟨.tuple #[mail0, .bool false], ?_, ?_⟩
  · have hres : Try.f20.results = #[.cell 4 30, .tmp 5] := rfl
    simp [results, hres, asAddr]
    try go_simp
    rfl
  · refine ⟨rfl, ?_⟩
    repeat (first | refine Fr.setCell ?_ (fun h => absurd h (by simp)) _ | refine Fr.alloc ?_ _ | exact Fr.refl _ _)
set_option maxRecDepth 100000 in
set_option maxHeartbeats 1000000 in
theorem look_some {w : World} {g b : Nat} {n : Int} {ms : List (Int × Value)} {f : Int → List MailA} (h : IsBox w g b n ms f) (to : Int) (m : MailA) (l : List MailA) (h0 : f to = m :: l) :
    Calls Try.prog 20 #[.pointer (some ⟨g, 0, none⟩), .int .i64 to] w fun e w' => e = .returned (.tuple #[.agg m.cells, .bool true]) ∧ Fr No w w' := by
  have HL := hid (show ((f to).length : Int) = (l.length : Int) + 1 by rw [h0]; simp)
  obtain ⟨W, hW⟩ : ∃ W, w.alloc (.cells #[.int .i64 0, .int .i64 0, .int .i64 0, .int .i64 0, .string ⟨#[]⟩, .slice none 0 0] 30) = W := ⟨_, rfl⟩
  have HW := hid hW
  have FW := hid (show Fr No w W from hW ▸ (Fr.refl No w).alloc _)
  have HB := hid (show Blk W w.heap.size 30 #[.int .i64 0, .int .i64 0, .int .i64 0, .int .i64 0, .string ⟨#[]⟩, .slice none 0 0] from hW ▸ Blk.new w _ _)
  have H := hid (h.keep FW.out)
  clear hW h
  obtain ⟨gr, cap, hrow⟩ : ∃ gr cap, rowOf ms to = .slice (some ⟨gr, 0, none⟩) (l.length + 1) cap := by
    have hr := H.out.row to
    rw [h0] at hr
    rcases hr.2 with ⟨_, hz⟩ | ⟨g', cap, cur, he, _⟩
    · simp at hz
    · exact ⟨g', cap, by rw [he]; simp⟩
  have hr := H.out.row to
  rw [h0] at hr
  have hc : ∀ j u, (cellsOf (m :: l))[j]? = some u → W.cell? ⟨gr, j, none⟩ = some u := fun j u hu => Own.cells hr (g := gr) (by rw [hrow]; rfl) j u hu
  have hl := look_eq H.out.map to
  rw [hrow] at hl
  have c0 := hc 0 (.int .i64 m.from_) rfl
  have c1 := hc 1 (.int .i64 m.seq) rfl
  have c2 := hc 2 (.int .i64 m.by_) rfl
  have c3 := hc 3 (.int .i64 m.to) rfl
  have c4 := hc 4 (.string m.tag) rfl
  have c5 := hc 5 (.slice none 0 0) rfl
  obtain ⟨g0, g1, gf⟩ := H.out.blk.pair
  have i0 : (0 : Int) < (l.length : Int) + 1 := by omega
  have e0 : ((l.length : Int) + 1 == 0) = false := by rw [beq_eq_false_iff_ne]; omega
  clear hc hr hrow h0
  go_enter Try.func20, Try.ntmps20
  go_wp2_with fail
  rw [HW.out]
  refine (H.out.len_c to).mono ?_
  rintro e wx ⟨rfl, rfl⟩
  rw [HL.out]
  go_wp2_with fail
  refine (copied_nil _ m).mono ?_
  rintro e w1 ⟨rfl, F1⟩
  have HB1 := hid (HB.out.keep F1 (not_no _))
  have m0 := HB1.out.cell 0
  have m1 := HB1.out.cell 1
  have m2 := HB1.out.cell 2
  have m3 := HB1.out.cell 3
  have m4 := HB1.out.cell 4
  have m5 := HB1.out.cell 5
  have mf := HB1.out.frozen
  have HF1 := hid (FW.out.fresh_no F1)
  clear F1 c0 c1 c2 c3 c4 c5 g0 g1 gf hl
  unfold MailA.cells
  go_wp2_with fail
  refine ⟨rfl, ?_⟩
  refine ⟨.tuple #[.agg m.cells, .bool true], ?_, ?_⟩
  · have hres : Try.f20.results = #[.cell 4 30, .tmp 5] := rfl
    simp [results, hres, asAddr]
    try go_simp
    try rfl
  · refine ⟨rfl, ?_⟩
    iterate 6 refine Fr.setCell ?_ (fun h => absurd h (by simp)) _
    exact HF1.out
end Go.Proofs.Ytkglndlmjleomaa
