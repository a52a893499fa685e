import Derived.Test.YtkglndlmjleomaaBoxJ
/-! The layer's own examples. -/
namespace Go.Proofs.Ytkglndlmjleomaa
open Go.RowKit
set_option linter.unusedVariables false
set_option linter.unusedSimpArgs false

/-- true, and nothing that was there is another -/
def RetT (w : World) : Ending → World → Prop := fun en w' => en = .returned (.bool true) ∧ Fr No w w'
set_option maxRecDepth 100000 in
set_option maxHeartbeats 1000000 in
theorem awake_c (w : World) : Calls Try.prog 15 #[] w fun e w' => e = .returned (.bool true) ∧ Fr No w w' := by
  go_enter Try.func15, Try.ntmps15
  go_wp2_with fail
  refine (new_b _ 1 (by decide) (by decide)).mono ?_
  rintro e w1 ⟨g, S, rfl, b1, f1, s1⟩
  go_wp2_with fail
  refine (new_bad _ 0 (.inl (by decide))).mono ?_
  rintro e w1 ⟨rfl, rfl⟩
  go_wp2_with fail
  refine (put_b b1 ⟨0, 0, 0, 5, ⟨#[97]⟩⟩ (by decide) (by decide) (by decide)).mono ?_
  rintro e w2 ⟨S2, rfl, b2, f2, s2⟩
  have F2 : Fr No w w2 := f1.fresh f2 s1
  have s3 : ∀ x, S2 x → w.heap.size ≤ x := fun x hx => (s2 x hx).elim (s1 x) (fun h => Nat.le_trans f1.size h)
  go_wp2_with fail
  refine (full_b b2 ⟨0, 0, 0, 5, ⟨#[]⟩⟩ (by decide) (by decide)).mono ?_
  rintro e w3 ⟨rfl, f3⟩
  have F3 := F2.fresh_no f3
  have b3 := b2.keep0 f3
  go_wp2_with fail
  refine (take_b b3 5 ⟨0, 0, 0, 5, ⟨#[97]⟩⟩ [] rfl (by decide)).mono ?_
  rintro e w4 ⟨S4, rfl, b4, f4, s4⟩
  have F4 : Fr No w w4 := F3.fresh f4 s3
  have b5 := b4.keep0 ((Fr.refl No w4).alloc (.cells #[.int .i64 0, .int .i64 0, .int .i64 0, .int .i64 5, .string ⟨#[97]⟩, .slice none 0 0] 30))
  have hb5 := Blk.new w4 30 #[.int .i64 0, .int .i64 0, .int .i64 0, .int .i64 5, .string ⟨#[97]⟩, .slice none 0 0]
  unfold MailA.cells
  go_wp2_with fail
  refine (none_b b5 5 rfl).mono ?_
  rintro e w6 ⟨rfl, f6⟩
  have F6 := (F4.alloc (.cells #[.int .i64 0, .int .i64 0, .int .i64 0, .int .i64 5, .string ⟨#[97]⟩, .slice none 0 0] 30)).fresh_no f6
  have hb6 := (hb5.keep f6 (not_no _)).alloc (.cells #[.int .i64 0, .int .i64 0, .int .i64 0, .int .i64 0, .string ByteArray.empty, .slice none 0 0] 30)
  have m4 := hb6.cell 4
  clear hb5 hb6
  unfold mail0
  go_wp2_with fail
  go_ret
  exact ⟨rfl, F6.alloc _⟩
end Go.Proofs.Ytkglndlmjleomaa
