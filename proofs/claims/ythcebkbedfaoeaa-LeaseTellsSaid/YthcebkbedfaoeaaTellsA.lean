import Derived.Test.YthcebkbedfaoeaaAcksA
import Derived.Deep.QuietTactic
import Derived.BigQuiet
/-! LeaseTells, part one: the document's table: New, bad, less. -/
namespace Go.Proofs.Ythcebkbedfaoeaa
open Go.RowKit Go.Lib
set_option linter.unusedVariables false
set_option linter.unusedSimpArgs false
attribute [local go_sem ↓] Go.wp_at_zero Go.wp_at_succ

/-- the document's table: its numbers, and its row -/
structure IsRef (w : World) (g : Nat) (n l s : Int) (v : Value) (ys : List Ls) : Prop where
  blk : Blk w g 62 #[.int .i64 n, .int .i64 l, .int .i64 s, v]
  own : Own 30 5 w v ys.length (lcells ys)
theorem IsRef.keep {w w' : World} {g : Nat} {n l s : Int} {v : Value} {ys : List Ls} (h : IsRef w g n l s v ys) (hf : Fr No w w') : IsRef w' g n l s v ys := ⟨h.blk.keep hf (not_no _), h.own.keep hf (fun x _ => not_no x)⟩

theorem new_cases {n l s : Int} (h : ¬ (1 ≤ n ∧ n ≤ 16 ∧ 1 ≤ l ∧ l ≤ 1048576 ∧ 0 ≤ s ∧ s ≤ 1048576)) :
    n < 1 ∨ (¬ n < 1 ∧ 16 < n) ∨ (¬ n < 1 ∧ ¬ 16 < n ∧ l < 1) ∨ (¬ n < 1 ∧ ¬ 16 < n ∧ ¬ l < 1 ∧ 1048576 < l) ∨ (¬ n < 1 ∧ ¬ 16 < n ∧ ¬ l < 1 ∧ ¬ 1048576 < l ∧ s < 0) ∨ (¬ n < 1 ∧ ¬ 16 < n ∧ ¬ l < 1 ∧ ¬ 1048576 < l ∧ ¬ s < 0 ∧ 1048576 < s) := by omega
theorem newBad_c (w : World) (n l s : Int) (h : ¬ (1 ≤ n ∧ n ≤ 16 ∧ 1 ≤ l ∧ l ≤ 1048576 ∧ 0 ≤ s ∧ s ≤ 1048576)) :
    Calls Try.prog 15 #[.int .i64 n, .int .i64 l, .int .i64 s] w fun e w' => e = .returned (.tuple #[.pointer none, .int .i64 2]) ∧ w' = w := by
  rcases new_cases h with d1 | ⟨d1, d2⟩ | ⟨d1, d2, d3⟩ | ⟨d1, d2, d3, d4⟩ | ⟨d1, d2, d3, d4, d5⟩ | ⟨d1, d2, d3, d4, d5, d6⟩
  all_goals
    go_enter Try.func15, Try.ntmps15
    go_wp2_with fail
    go_ret2
    exact ⟨rfl, rfl⟩
theorem rnewBad_c (w : World) (n l s : Int) (h : ¬ (1 ≤ n ∧ n ≤ 16 ∧ 1 ≤ l ∧ l ≤ 1048576 ∧ 0 ≤ s ∧ s ≤ 1048576)) :
    Calls Try.prog 19 #[.int .i64 n, .int .i64 l, .int .i64 s] w fun e w' => e = .returned (.tuple #[.pointer none, .int .i64 2]) ∧ w' = w := by
  rcases new_cases h with d1 | ⟨d1, d2⟩ | ⟨d1, d2, d3⟩ | ⟨d1, d2, d3, d4⟩ | ⟨d1, d2, d3, d4, d5⟩ | ⟨d1, d2, d3, d4, d5, d6⟩
  all_goals
    go_enter Try.func19, Try.ntmps19
    go_wp2_with fail
    go_ret2
    exact ⟨rfl, rfl⟩
theorem rnew_c (w : World) (n l s : Int) (h1 : 1 ≤ n) (h2 : n ≤ 16) (h3 : 1 ≤ l) (h4 : l ≤ 1048576) (h5 : 0 ≤ s) (h6 : s ≤ 1048576) :
    Calls Try.prog 19 #[.int .i64 n, .int .i64 l, .int .i64 s] w fun e w' => ∃ g, e = .returned (.tuple #[.pointer (some ⟨g, 0, none⟩), .int .i64 0]) ∧ IsRef w' g n l s (.slice none 0 0) [] ∧ Fr No w w' ∧ w.heap.size ≤ g := by
  have d1 : ¬ n < 1 := by omega
  have d2 : ¬ 16 < n := by omega
  have d3 : ¬ l < 1 := by omega
  have d4 : ¬ 1048576 < l := by omega
  have d5 : ¬ s < 0 := by omega
  have d6 : ¬ 1048576 < s := by omega
  go_enter Try.func19, Try.ntmps19
  go_wp2_with fail
  go_ret2
  exact ⟨w.heap.size, rfl, ⟨Blk.new w _ _, Own.nil _ _ _⟩, (Fr.refl No w).alloc _, Nat.le_refl _⟩

/-- may a number not be? -/
theorem bad_c (w : World) (n : Int) : Calls Try.prog 38 #[.int .i64 n] w fun e w' => e = .returned (.bool (decide (n < 0 ∨ 1099511627776 < n))) ∧ w' = w := by
  by_cases d1 : n < 0
  · have hd : decide (n < 0 ∨ 1099511627776 < n) = true := by simp [d1]
    rw [hd]
    go_enter Try.func38, Try.ntmps38
    go_wp2_with fail
    go_ret
    exact ⟨rfl, rfl⟩
  · by_cases d2 : 1099511627776 < n
    · have hd : decide (n < 0 ∨ 1099511627776 < n) = true := by simp [d2]
      rw [hd]
      go_enter Try.func38, Try.ntmps38
      go_wp2_with fail
      go_ret
      exact ⟨rfl, rfl⟩
    · have hd : decide (n < 0 ∨ 1099511627776 < n) = false := by simp [d1, d2]
      rw [hd]
      go_enter Try.func38, Try.ntmps38
      go_wp2_with fail
      go_ret
      exact ⟨rfl, rfl⟩
/-- the order of All -/
theorem lessR_c (w : World) (x y : Ls) : Calls Try.prog 39 #[x.val, y.val] w fun e w' => e = .returned (.bool (ltOf cmpL x y)) ∧ Fr No w w' := by
  obtain ⟨a0, a1, a2, a3, a4⟩ := x
  obtain ⟨b0, b1, b2, b3, b4⟩ := y
  have hcs : ((a0 == b0) = false) ∨ (a0 = b0 ∧ (a1 == b1) = false) ∨ (a0 = b0 ∧ a1 = b1) := by
    by_cases e1 : a0 = b0
    · by_cases e2 : a1 = b1
      · exact .inr (.inr ⟨e1, e2⟩)
      · exact .inr (.inl ⟨e1, by simp [e2]⟩)
    · exact .inl (by simp [e1])
  rcases hcs with e1 | ⟨rfl, e2⟩ | ⟨rfl, rfl⟩
  · have hd : ltOf cmpL ⟨a0, a1, a2, a3, a4⟩ ⟨b0, b1, b2, b3, b4⟩ = decide (a0 < b0) := by
      have hne : a0 ≠ b0 := by simpa using e1
      rw [ltL]; simp [hne]
    rw [hd]
    show Calls Try.prog 39 #[.agg #[.int .i64 a0, .int .i64 a1, .int .i64 a2, .int .i64 a3, .int .i64 a4], .agg #[.int .i64 b0, .int .i64 b1, .int .i64 b2, .int .i64 b3, .int .i64 b4]] w _
    go_enter Try.func39, Try.ntmps39
    go_wp2_with fail
    go_ret
    exact ⟨rfl, ((Fr.refl No w).alloc _).alloc _⟩
  · have hd : ltOf cmpL ⟨a0, a1, a2, a3, a4⟩ ⟨a0, b1, b2, b3, b4⟩ = decide (a1 < b1) := by
      have hne : a1 ≠ b1 := by simpa using e2
      rw [ltL]; simp [hne]
    rw [hd]
    show Calls Try.prog 39 #[.agg #[.int .i64 a0, .int .i64 a1, .int .i64 a2, .int .i64 a3, .int .i64 a4], .agg #[.int .i64 a0, .int .i64 b1, .int .i64 b2, .int .i64 b3, .int .i64 b4]] w _
    go_enter Try.func39, Try.ntmps39
    go_wp2_with fail
    go_ret
    exact ⟨rfl, ((Fr.refl No w).alloc _).alloc _⟩
  · have hd : ltOf cmpL ⟨a0, a1, a2, a3, a4⟩ ⟨a0, a1, b2, b3, b4⟩ = decide (a2 < b2) := by
      rw [ltL]; simp
    rw [hd]
    show Calls Try.prog 39 #[.agg #[.int .i64 a0, .int .i64 a1, .int .i64 a2, .int .i64 a3, .int .i64 a4], .agg #[.int .i64 a0, .int .i64 a1, .int .i64 b2, .int .i64 b3, .int .i64 b4]] w _
    go_enter Try.func39, Try.ntmps39
    go_wp2_with fail
    go_ret
    exact ⟨rfl, ((Fr.refl No w).alloc _).alloc _⟩
end Go.Proofs.Ythcebkbedfaoeaa
