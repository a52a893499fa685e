import Derived.Test.YtkglndlmjleomaaBoxA
/-! Boxes that are none: they refuse mail and tell nothing. -/
namespace Go.Proofs.Ytkglndlmjleomaa
open Go.RowKit
set_option linter.unusedVariables false
set_option linter.unusedSimpArgs false

def mail0 : Value := .agg #[.int .i64 0, .int .i64 0, .int .i64 0, .int .i64 0, .string ByteArray.empty, .slice none 0 0]
set_option maxRecDepth 100000 in
set_option maxHeartbeats 400000 in
theorem look_none {w : World} {v : Value} (h : NoBox w v) (to : Int) : Calls Try.prog 20 #[v, .int .i64 to] w fun e w' => e = .returned (.tuple #[mail0, .bool false]) ∧ Fr No w w' := by
  have H := hid h
  clear h
  have HK := hid (show ∀ w', Fr No w w' → NoBox w' v from fun w' hf => H.out.imp id (fun ⟨g, e, hb⟩ => ⟨g, e, hb.keep hf (not_no _)⟩))
  go_enter Try.func20, Try.ntmps20
  go_wp2_with fail
  refine (len_none (HK.out _ ((Fr.refl No w).alloc _)) to).mono ?_
  rintro e wx ⟨rfl, rfl⟩
  go_wp2_with fail
  refine ⟨rfl, ?_⟩
  refine ⟨.tuple #[mail0, .bool false], ?_, ?_⟩
  · have hres : Try.f20.results = #[.cell 4 30, .tmp 5] := rfl
    simp [results, hres, asAddr]
    try go_simp
    rfl
  · refine ⟨rfl, ?_⟩
    repeat (first | refine Fr.setCell ?_ (fun h => absurd h (by simp)) _ | refine Fr.alloc ?_ _ | exact Fr.refl _ _)
set_option maxRecDepth 100000 in
set_option maxHeartbeats 400000 in
theorem put_none {w : World} {v : Value} (h : NoBox w v) (a b c d e f : Value) : Calls Try.prog 13 #[v, .agg #[a, b, c, d, e, f]] w fun en w' => en = .returned (.int .i64 1) ∧ Fr No w w' := by
  have H := hid h
  clear h
  have HK := hid (show ∀ w', Fr No w w' → NoBox w' v from fun w' hf => H.out.imp id (fun ⟨g, e, hb⟩ => ⟨g, e, hb.keep hf (not_no _)⟩))
  go_enter Try.func13, Try.ntmps13
  go_wp2_with fail
  refine (right_none (HK.out _ ((Fr.refl No w).alloc _))).mono ?_
  rintro e wx ⟨rfl, rfl⟩
  go_wp2_with fail
  go_ret
  exact ⟨rfl, (Fr.refl No w).alloc _⟩
set_option maxRecDepth 100000 in
set_option maxHeartbeats 400000 in
theorem take_none {w : World} {v : Value} (h : NoBox w v) (to : Int) : Calls Try.prog 11 #[v, .int .i64 to] w fun e w' => e = .returned (.tuple #[mail0, .bool false]) ∧ Fr No w w' := by
  have H := hid h
  clear h
  have HK := hid (show ∀ w', Fr No w w' → NoBox w' v from fun w' hf => H.out.imp id (fun ⟨g, e, hb⟩ => ⟨g, e, hb.keep hf (not_no _)⟩))
  have HB := hid (Blk.new w 30 #[.int .i64 0, .int .i64 0, .int .i64 0, .int .i64 0, .string ByteArray.empty, .slice none 0 0])
  go_enter Try.func11, Try.ntmps11
  go_wp2_with fail
  refine (look_none (HK.out _ ((Fr.refl No w).alloc _)) to).mono ?_
  rintro e w1 ⟨rfl, F1⟩
  have HF1 := hid F1
  have HB1 := hid (HB.out.keep F1 (not_no _))
  have HX := hid (HB1.out.alloc (.cells #[.int .i64 0, .int .i64 0, .int .i64 0, .int .i64 0, .string ByteArray.empty, .slice none 0 0] 30))
  have c0 := HX.out.cell 0
  have c1 := HX.out.cell 1
  have c2 := HX.out.cell 2
  have c3 := HX.out.cell 3
  have c4 := HX.out.cell 4
  have c5 := HX.out.cell 5
  have cf := HX.out.frozen
  clear F1
  unfold mail0
  go_wp2_with fail
  refine ⟨rfl, ?_⟩
  refine ⟨.tuple #[mail0, .bool false], ?_, ?_⟩
  · have hres : Try.f11.results = #[.cell 4 30, .tmp 5] := rfl
    simp [results, hres, asAddr]
    try go_simp
    rfl
  · refine ⟨rfl, ?_⟩
    have F0 : Fr No w w1 := ((Fr.refl No w).alloc _).fresh_no HF1.out
    iterate 6 refine Fr.setCell ?_ (fun h => absurd h (by simp)) _
    exact F0.alloc _
set_option maxRecDepth 100000 in
set_option maxHeartbeats 400000 in
theorem len64_0 (w : World) : Calls Try.prog 57 #[.int .u64 0] w fun e w' => ∃ n, e = .returned (.int .i64 n) ∧ w' = w := by
  go_enter Try.func57, Try.ntmps57
  go_wp2_with fail
  go_ret
  exact ⟨_, rfl, rfl⟩
set_option maxRecDepth 100000 in
set_option maxHeartbeats 400000 in
theorem bitsLen_0 (w : World) : Calls Try.prog 44 #[.int .u64 0] w fun e w' => ∃ n, e = .returned (.int .i64 n) ∧ w' = w := by
  go_enter Try.func44, Try.ntmps44
  go_wp2_with fail
  refine (len64_0 _).mono ?_
  rintro e wx ⟨n, rfl, rfl⟩
  go_wp2_with fail
  go_ret
  exact ⟨_, rfl, rfl⟩
set_option maxRecDepth 100000 in
set_option maxHeartbeats 400000 in
theorem insSort_0 (w : World) (v : Value) : Calls Try.prog 47 #[v, .int .i64 0, .int .i64 0] w fun e w' => e = .returned (.tuple #[]) ∧ w' = w := by
  go_enter Try.func47, Try.ntmps47
  go_wp2_with fail
  refine wp_loop_rounds 1 ?_
  unfold Code.rounds
  go_wp2_with fail
  go_end0
  exact ⟨rfl, rfl⟩
set_option maxRecDepth 100000 in
set_option maxHeartbeats 400000 in
theorem pdq_0 (w : World) (v : Value) (n : Int) : Calls Try.prog 43 #[v, .int .i64 0, .int .i64 0, .int .i64 n] w fun e w' => e = .returned (.tuple #[]) ∧ w' = w := by
  go_enter Try.func43, Try.ntmps43
  go_wp2_with fail
  refine wp_loop_rounds 1 ?_
  unfold Code.rounds
  go_wp2_with fail
  refine (insSort_0 _ _).mono ?_
  rintro e wx ⟨rfl, rfl⟩
  go_wp2_with fail
  (try simp only [Exit.inBlock, Exit.then])
  refine bodyPost_ret (results_none rfl _ _ _) rfl ?_
  exact ⟨rfl, rfl⟩
set_option maxRecDepth 100000 in
set_option maxHeartbeats 400000 in
theorem sort_0 (w : World) : Calls Try.prog 36 #[.slice none 0 0] w fun e w' => e = .returned (.tuple #[]) ∧ w' = w := by
  go_enter Try.func36, Try.ntmps36
  go_wp2_with fail
  refine (bitsLen_0 _).mono ?_
  rintro e wx ⟨n, rfl, rfl⟩
  go_wp2_with fail
  refine (pdq_0 _ _ _).mono ?_
  rintro e wx ⟨rfl, rfl⟩
  go_wp2_with fail
  go_end0
  exact ⟨rfl, rfl⟩
set_option maxRecDepth 100000 in
set_option maxHeartbeats 400000 in
theorem waiting_none {w : World} {v : Value} (h : NoBox w v) : Calls Try.prog 19 #[v] w fun e w' => e = .returned (.slice none 0 0) ∧ w' = w := by
  have H := hid h
  clear h
  go_enter Try.func19, Try.ntmps19
  go_wp2_with fail
  refine (right_none H.out).mono ?_
  rintro e wx ⟨rfl, rfl⟩
  go_wp2_with fail
  refine (sort_0 _).mono ?_
  rintro e wx ⟨rfl, rfl⟩
  go_wp2_with fail
  go_ret
  exact ⟨rfl, rfl⟩
set_option maxRecDepth 100000 in
set_option maxHeartbeats 400000 in
theorem all_none {w : World} {v : Value} (h : NoBox w v) : Calls Try.prog 18 #[v] w fun e w' => e = .returned (.slice none 0 0) ∧ w' = w := by
  have H := hid h
  clear h
  go_enter Try.func18, Try.ntmps18
  go_wp2_with fail
  refine (waiting_none H.out).mono ?_
  rintro e wx ⟨rfl, rfl⟩
  go_wp2_with fail
  refine wp_loop_rounds 1 ?_
  unfold Code.rounds
  go_wp2_with fail
  go_ret
  exact ⟨rfl, rfl⟩
end Go.Proofs.Ytkglndlmjleomaa
