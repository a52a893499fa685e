import Derived.Test.YtkglndlmjleomaaBoxB
/-! New; mail without args: its copy, what is asked of its args. -/
namespace Go.Proofs.Ytkglndlmjleomaa
open Go.RowKit
set_option linter.unusedVariables false
set_option linter.unusedSimpArgs false

set_option maxRecDepth 100000 in
set_option maxHeartbeats 400000 in
theorem new_bad (w : World) (n : Int) (h : n < 1 ∨ 64 < n) : Calls Try.prog 9 #[.int .i64 n] w fun e w' => e = .returned (.tuple #[.pointer none, .int .i64 2]) ∧ w' = w := by
  rcases (show n < 1 ∨ (¬ n < 1 ∧ 64 < n) by omega) with h1 | ⟨h1, h2⟩
  all_goals
    go_enter Try.func9, Try.ntmps9
    go_wp2_with fail
    go_ret2
    exact ⟨rfl, rfl⟩
set_option maxRecDepth 100000 in
set_option maxHeartbeats 400000 in
theorem new_c (w : World) (n : Int) (h1 : 1 ≤ n) (h2 : n ≤ 64) : Calls Try.prog 9 #[.int .i64 n] w fun e w' => ∃ g b, e = .returned (.tuple #[.pointer (some ⟨g, 0, none⟩), .int .i64 0]) ∧ Blk w' g 61 #[.int .i64 n, .map (some b)] ∧ IsMap w' b [] ∧ Fr No w w' ∧ w.heap.size ≤ b ∧ w.heap.size ≤ g := by
  have d1 : ¬ n < 1 := by omega
  have d2 : ¬ 64 < n := by omega
  have hmm := @run_makeMap Try.prog
  go_enter Try.func9, Try.ntmps9
  go_wp2_with fail
  go_ret2
  have HB : Blk ((w.alloc (.map #[] 0)).alloc (.cells #[.int .i64 n, .map (some w.heap.size)] 61)) (w.heap.size + 1) 61 #[.int .i64 n, .map (some w.heap.size)] := by
    have h := Blk.new (w.alloc (.map #[] 0)) 61 #[.int .i64 n, .map (some w.heap.size)]
    rwa [show (w.alloc (.map #[] 0)).heap.size = w.heap.size + 1 by simp] at h
  have HM : IsMap ((w.alloc (.map #[] 0)).alloc (.cells #[.int .i64 n, .map (some w.heap.size)] 61)) w.heap.size [] := (IsMap.new w).keep ((Fr.refl No _).alloc _) (not_no _)
  exact ⟨w.heap.size + 1, rfl, w.heap.size, HB, HM, ((Fr.refl No w).alloc _).alloc _, Nat.le_refl _, by omega⟩
set_option maxRecDepth 100000 in
set_option maxHeartbeats 400000 in
theorem clone_nil (w : World) : Calls Try.prog 41 #[.slice none 0 0] w fun e w' => e = .returned (.slice none 0 0) ∧ w' = w := by
  have kn := fun (w : World) (a : Option Addr) (n c : Nat) => Lib.run_eql_slice_nil (P := Try.prog) w 28 57 a n c 0 0 Try.underlying28
  go_enter Try.func41, Try.ntmps41
  go_wp2_with fail
  go_ret
  exact ⟨rfl, rfl⟩
set_option maxRecDepth 100000 in
set_option maxHeartbeats 400000 in
theorem index_nil (w : World) (f : Value) : Calls Try.prog 39 #[.slice none 0 0, f] w fun e w' => e = .returned (.int .i64 (-1)) ∧ w' = w := by
  go_enter Try.func39, Try.ntmps39
  go_wp2_with fail
  refine wp_loop_rounds 1 ?_
  unfold Code.rounds
  go_wp2_with fail
  go_ret
  exact ⟨rfl, rfl⟩
set_option maxRecDepth 100000 in
set_option maxHeartbeats 400000 in
theorem contains_nil (w : World) (f : Value) : Calls Try.prog 31 #[.slice none 0 0, f] w fun e w' => e = .returned (.bool false) ∧ w' = w := by
  go_enter Try.func31, Try.ntmps31
  go_wp2_with fail
  refine (index_nil _ _).mono ?_
  rintro e wx ⟨rfl, rfl⟩
  go_wp2_with fail
  go_ret
  exact ⟨rfl, rfl⟩
/-- mail without args -/
structure MailA where
  from_ : Int
  seq : Int
  by_ : Int
  to : Int
  tag : ByteArray
def MailA.cells (m : MailA) : Array Value := #[.int .i64 m.from_, .int .i64 m.seq, .int .i64 m.by_, .int .i64 m.to, .string m.tag, .slice none 0 0]
set_option maxRecDepth 100000 in
set_option maxHeartbeats 400000 in
theorem copied_nil (w : World) (m : MailA) : Calls Try.prog 34 #[.agg m.cells] w fun e w' => e = .returned (.agg m.cells) ∧ Fr No w w' := by
  obtain ⟨a, b, c, d, t⟩ := m
  have HB := hid (Blk.new w 30 #[.int .i64 a, .int .i64 b, .int .i64 c, .int .i64 d, .string t, .slice none 0 0])
  unfold MailA.cells
  dsimp only
  go_enter Try.func34, Try.ntmps34
  go_wp2_with fail
  refine (clone_nil _).mono ?_
  rintro e wx ⟨rfl, rfl⟩
  go_wp2_with fail
  refine ⟨rfl, ?_⟩
  refine ⟨.agg #[.int .i64 a, .int .i64 b, .int .i64 c, .int .i64 d, .string t, .slice none 0 0], ?_, ?_⟩
  · have hres : Try.f34.results = #[.cell 2 30] := rfl
    simp [results, hres, asAddr]
    try go_simp
  · refine ⟨rfl, ?_⟩
    repeat (first | refine Fr.setCell ?_ (fun h => absurd h (by simp)) _ | refine Fr.alloc ?_ _ | exact Fr.refl _ _)
end Go.Proofs.Ytkglndlmjleomaa
