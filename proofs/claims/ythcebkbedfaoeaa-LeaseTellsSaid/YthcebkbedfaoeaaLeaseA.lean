import Derived.Test.YthcebkbedfaoeaaMapG
import Derived.Test.YthcebkbedfaoeaaSort
/-! The table: a struct with a map; tables that are none. -/
namespace Go.Proofs.Ythcebkbedfaoeaa
open Go.RowKit
set_option linter.unusedVariables false
set_option linter.unusedSimpArgs false

def zeroL : Value := .agg #[.int .i64 0, .int .i64 0, .int .i64 0, .int .i64 0, .int .i64 0]
theorem Blk.four {w : World} {g : Nat} {t : TypeId} {a b c d : Value} (h : Blk w g t #[a, b, c, d]) : w.cell? ⟨g, 0, none⟩ = some a ∧ w.cell? ⟨g, 1, none⟩ = some b ∧ w.cell? ⟨g, 2, none⟩ = some c ∧ w.cell? ⟨g, 3, none⟩ = some d ∧ ∀ i, w.frozen? ⟨g, i, none⟩ = false := ⟨h.cell 0, h.cell 1, h.cell 2, h.cell 3, h.frozen⟩
/-- tables that are none: nil, or a struct without a map -/
def NoTab (w : World) (v : Value) : Prop := v = .pointer none ∨ ∃ g, v = .pointer (some ⟨g, 0, none⟩) ∧ Blk w g 27 #[.int .i64 0, .int .i64 0, .int .i64 0, .map none]
theorem NoTab.keep {w w' : World} {v : Value} (h : NoTab w v) (hf : Fr No w w') : NoTab w' v := by
  rcases h with rfl | ⟨g, rfl, hb⟩
  · exact .inl rfl
  · exact .inr ⟨g, rfl, hb.keep hf (not_no _)⟩
set_option maxRecDepth 100000 in
set_option maxHeartbeats 400000 in
theorem right_none {w : World} {v : Value} (h : NoTab w v) : Calls Try.prog 25 #[v] w fun e w' => e = .returned (.bool false) ∧ w' = w := by
  rcases h with rfl | ⟨g, rfl, hb⟩
  · go_enter Try.func25, Try.ntmps25
    go_wp2_with fail
    go_ret
    exact ⟨rfl, rfl⟩
  · obtain ⟨c0, c1, c2, c3, cf⟩ := hb.four
    clear hb
    have kn := fun (w : World) (r : Option Nat) => Go.run_neq_map_nil (P := Try.prog) w 25 65 30 r Try.underlying25
    go_enter Try.func25, Try.ntmps25
    go_wp2_with fail
    go_ret
    exact ⟨rfl, rfl⟩
set_option maxRecDepth 100000 in
set_option maxHeartbeats 400000 in
theorem right_yes {w : World} {g b : Nat} {n l s : Value} (hb : Blk w g 27 #[n, l, s, .map (some b)]) : Calls Try.prog 25 #[.pointer (some ⟨g, 0, none⟩)] w fun e w' => e = .returned (.bool true) ∧ w' = w := by
  obtain ⟨c0, c1, c2, c3, cf⟩ := hb.four
  clear hb
  have kn := fun (w : World) (r : Option Nat) => Go.run_neq_map_nil (P := Try.prog) w 25 65 30 r Try.underlying25
  go_enter Try.func25, Try.ntmps25
  go_wp2_with fail
  go_ret
  exact ⟨rfl, rfl⟩
set_option maxRecDepth 100000 in
set_option maxHeartbeats 400000 in
theorem grant_none {w : World} {v : Value} (h : NoTab w v) (a b c d f : Value) : Calls Try.prog 9 #[v, a, b, c, d, f] w fun e w' => e = .returned (.tuple #[zeroL, .int .i64 1]) ∧ Fr No w w' := by
  have H := hid h
  clear h
  go_enter Try.func9, Try.ntmps9
  go_wp2_with fail
  refine (right_none (H.out.keep ((Fr.refl No w).alloc _))).mono ?_
  rintro e wx ⟨rfl, rfl⟩
  go_wp2_with fail
  refine ⟨rfl, ?_⟩
  refine ⟨.tuple #[zeroL, .int .i64 1], ?_, ?_⟩
  · have hres : Try.f9.results = #[.cell 12 30, .tmp 13] := rfl
    simp [results, hres, asAddr]
    try go_simp
    try rfl
  · refine ⟨rfl, ?_⟩
    repeat (first | refine Fr.setCell ?_ (fun h => absurd h (by simp)) _ | refine Fr.alloc ?_ _ | exact Fr.refl _ _)
set_option maxRecDepth 100000 in
set_option maxHeartbeats 400000 in
theorem drop_none {w : World} {v : Value} (h : NoTab w v) (f : Value) (hf : f.oneCell' = true) : Calls Try.prog 26 #[v, f] w fun e w' => e = .returned (.int .i64 0) ∧ Fr No w w' := by
  have H := hid h
  clear h
  go_enter Try.func26, Try.ntmps26
  go_wp2_with fail
  refine (right_none (H.out.keep ((Fr.refl No w).alloc _))).mono ?_
  rintro e wx ⟨rfl, rfl⟩
  go_wp2_with fail
  go_ret
  exact ⟨rfl, (Fr.refl No w).alloc _⟩
set_option maxRecDepth 100000 in
set_option maxHeartbeats 400000 in
theorem acked_none {w : World} {v : Value} (h : NoTab w v) (a b : Int) : Calls Try.prog 10 #[v, .int .i64 a, .int .i64 b] w fun e w' => e = .returned (.int .i64 0) ∧ Fr No w w' := by
  have H := hid h
  clear h
  go_enter Try.func10, Try.ntmps10
  go_wp2_with fail
  refine (drop_none (H.out.keep (((Fr.refl No w).alloc _).alloc _)) _ rfl).mono ?_
  rintro e w1 ⟨rfl, f1⟩
  have F1 := hid ((((Fr.refl No w).alloc _).alloc _).fresh_no f1)
  clear f1
  go_wp2_with fail
  go_ret
  exact ⟨rfl, F1.out⟩
set_option maxRecDepth 100000 in
set_option maxHeartbeats 400000 in
theorem expire_ptr {w : World} {p : Option Addr} (h : NoTab w (.pointer p)) (a : Int) : Calls Try.prog 11 #[.pointer p, .int .i64 a] w fun e w' => e = .returned (.int .i64 0) ∧ Fr No w w' := by
  have H := hid h
  clear h
  go_enter Try.func11, Try.ntmps11
  go_wp2_with fail
  refine (drop_none (H.out.keep (((Fr.refl No w).alloc _).alloc _)) _ rfl).mono ?_
  rintro e w1 ⟨rfl, f1⟩
  have F1 := hid ((((Fr.refl No w).alloc _).alloc _).fresh_no f1)
  clear f1
  go_wp2_with fail
  go_ret
  exact ⟨rfl, F1.out⟩
theorem expire_none {w : World} {v : Value} (h : NoTab w v) (a : Int) : Calls Try.prog 11 #[v, .int .i64 a] w fun e w' => e = .returned (.int .i64 0) ∧ Fr No w w' := by
  rcases h with rfl | ⟨g, rfl, hb⟩
  · exact expire_ptr (.inl rfl) a
  · exact expire_ptr (.inr ⟨g, rfl, hb⟩) a
set_option maxRecDepth 100000 in
set_option maxHeartbeats 400000 in
/-- a list of less than two -/
theorem compact_short (w : World) (A : Option Addr) (n c : Nat) (hn : n < 2) : Calls Try.prog 31 #[.slice A n c] w fun e w' => e = .returned (.slice A n c) ∧ w' = w := by
  have d : (n : Int) < 2 := by omega
  go_enter Try.func31, Try.ntmps31
  go_wp2_with fail
  go_ret
  exact ⟨rfl, rfl⟩
set_option maxRecDepth 100000 in
set_option maxHeartbeats 400000 in
theorem holders_none {w : World} {v : Value} (h : NoTab w v) (a b : Int) : Calls Try.prog 12 #[v, .int .i64 a, .int .i64 b] w fun e w' => e = .returned (.slice none 0 0) ∧ w' = w := by
  have H := hid h
  clear h
  go_enter Try.func12, Try.ntmps12
  go_wp2_with fail
  refine (right_none H.out).mono ?_
  rintro e wx ⟨rfl, rfl⟩
  go_wp2_with fail
  refine (sort_0 _).mono ?_
  rintro e wx ⟨rfl, rfl⟩
  go_wp2_with fail
  refine (compact_short _ _ _ _ (by decide)).mono ?_
  rintro e wx ⟨rfl, rfl⟩
  go_wp2_with fail
  go_ret
  exact ⟨rfl, rfl⟩
set_option maxRecDepth 100000 in
set_option maxHeartbeats 400000 in
theorem insCmp_0 (w : World) (v f : Value) : Calls Try.prog 59 #[v, .int .i64 0, .int .i64 0, f] w fun e w' => e = .returned (.tuple #[]) ∧ w' = w := by
  go_enter Try.func59, Try.ntmps59
  go_wp2_with fail
  refine wp_loop_rounds 1 ?_
  unfold Code.rounds
  go_wp2_with fail
  go_end0
  exact ⟨rfl, rfl⟩
set_option maxRecDepth 100000 in
set_option maxHeartbeats 400000 in
theorem pdqCmp_0 (w : World) (v f : Value) (n : Int) : Calls Try.prog 46 #[v, .int .i64 0, .int .i64 0, .int .i64 n, f] w fun e w' => e = .returned (.tuple #[]) ∧ w' = w := by
  go_enter Try.func46, Try.ntmps46
  go_wp2_with fail
  refine wp_loop_rounds 1 ?_
  unfold Code.rounds
  go_wp2_with fail
  refine (insCmp_0 _ _ _).mono ?_
  rintro e wx ⟨rfl, rfl⟩
  go_wp2_with fail
  (try simp only [Exit.inBlock, Exit.then])
  refine bodyPost_ret (results_none rfl _ _ _) rfl ?_
  exact ⟨rfl, rfl⟩
set_option maxRecDepth 100000 in
set_option maxHeartbeats 400000 in
theorem sortCmp_0 (w : World) (f : Value) : Calls Try.prog 34 #[.slice none 0 0, f] w fun e w' => e = .returned (.tuple #[]) ∧ w' = w := by
  go_enter Try.func34, Try.ntmps34
  go_wp2_with fail
  refine (bitsLen_0 _).mono ?_
  rintro e wx ⟨n, rfl, rfl⟩
  go_wp2_with fail
  refine (pdqCmp_0 _ _ _ _).mono ?_
  rintro e wx ⟨rfl, rfl⟩
  go_wp2_with fail
  go_end0
  exact ⟨rfl, rfl⟩
set_option maxRecDepth 100000 in
set_option maxHeartbeats 400000 in
theorem all_none {w : World} {v : Value} (h : NoTab w v) : Calls Try.prog 13 #[v] w fun e w' => e = .returned (.slice none 0 0) ∧ w' = w := by
  have H := hid h
  clear h
  go_enter Try.func13, Try.ntmps13
  go_wp2_with fail
  refine (right_none H.out).mono ?_
  rintro e wx ⟨rfl, rfl⟩
  go_wp2_with fail
  refine (sortCmp_0 _ _).mono ?_
  rintro e wx ⟨rfl, rfl⟩
  go_wp2_with fail
  go_ret
  exact ⟨rfl, rfl⟩
end Go.Proofs.Ythcebkbedfaoeaa
