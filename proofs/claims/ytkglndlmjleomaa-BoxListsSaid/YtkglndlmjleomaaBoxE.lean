import Derived.Test.YtkglndlmjleomaaBoxD
import Derived.Deep.QuietTactic
import Derived.BigQuiet
/-! Put, at mail without args. -/
namespace Go.Proofs.Ytkglndlmjleomaa
open Go.RowKit
set_option linter.unusedVariables false
set_option linter.unusedSimpArgs false

theorem look_eq {w : World} {b : Nat} {ms : List (Int × Value)} (hm : IsMap w b ms) (to : Int) : (Instr.lookup 44 (.map (some b)) (.int .i64 to) false).run Try.prog w = .ok (rowOf ms to) w :=
  run_look (P := Try.prog) (T := 44) (K := 2) (E := 39) Try.underlying44 Try.underlying2 (z := .slice none 0 0) (by kernel_rfl) hm to

set_option maxRecDepth 100000 in
set_option maxHeartbeats 1000000 in
theorem put_full {w : World} {g b : Nat} {n : Int} {ms : List (Int × Value)} {f : Int → List MailA} (h : IsBox w g b n ms f) (m : MailA) (ht : m.tag.size ≤ 255) (hf : n ≤ (f m.to).length) :
    Calls Try.prog 13 #[.pointer (some ⟨g, 0, none⟩), .agg m.cells] w fun e w' => e = .returned (.int .i64 141) ∧ Fr No w w' := by
  obtain ⟨a, by0, c, d, t⟩ := m
  replace ht : t.size ≤ 255 := ht
  replace hf : n ≤ (f d).length := hf
  have d1 : ¬ (255 : Int) < t.size := by omega
  obtain ⟨A, cap, hrow, hcap, _⟩ := (h.row d).slice
  have H := hid (h.keep ((Fr.refl No w).alloc (.cells #[.int .i64 a, .int .i64 by0, .int .i64 c, .int .i64 d, .string t, .slice none 0 0] 30)))
  obtain ⟨W, hW⟩ : ∃ W, w.alloc (.cells #[.int .i64 a, .int .i64 by0, .int .i64 c, .int .i64 d, .string t, .slice none 0 0] 30) = W := ⟨_, rfl⟩
  have HB := hid (show Blk W w.heap.size 30 #[.int .i64 a, .int .i64 by0, .int .i64 c, .int .i64 d, .string t, .slice none 0 0] from hW ▸ Blk.new w _ _)
  have HF := hid (show Fr No w W from hW ▸ (Fr.refl No w).alloc _)
  rw [hW] at H
  have HW := hid hW
  have hl := fun k => look_eq (H.out.map.keep ((Fr.refl No W).drewN k) (not_no _)) d
  rw [hrow] at hl
  obtain ⟨c0, c1, cf⟩ := H.out.blk.pair
  have m0 := HB.out.cell 0
  have m1 := HB.out.cell 1
  have m2 := HB.out.cell 2
  have m3 := HB.out.cell 3
  have m4 := HB.out.cell 4
  have m5 := HB.out.cell 5
  have mf := HB.out.frozen
  have e1 : n ≤ ((f d).length : Int) := hf
  clear hW h hrow
  unfold MailA.cells
  dsimp only
  go_enter Try.func13, Try.ntmps13
  go_wp2_with fail
  rw [HW.out]
  refine (right_yes H.out.blk).mono ?_
  rintro e wx ⟨rfl, rfl⟩
  go_wp2_with fail
  refine (contains_nil _ _).mono ?_
  rintro e wx2 ⟨rfl, rfl⟩
  go_wp2_with fail
  go_quiet (fail)
  go_wp2_with fail
  go_ret
  exact ⟨rfl, HF.out.drewN _⟩
end Go.Proofs.Ytkglndlmjleomaa
