import Derived.Test.YtkglndlmjleomaaMap
import Derived.Test.YtkglndlmjleomaaProg
import Derived.Deep.RegionLaw
import Derived.BigRegion
import Derived.WalkSpells
/-! The boxes: a struct with a map; whether they are. -/
namespace Go.Proofs.Ytkglndlmjleomaa
open Go.RowKit
set_option linter.unusedVariables false
set_option linter.unusedSimpArgs false

theorem Blk.pair {w : World} {g : Nat} {t : TypeId} {a b : Value} (h : Blk w g t #[a, b]) : w.cell? ⟨g, 0, none⟩ = some a ∧ w.cell? ⟨g, 1, none⟩ = some b ∧ ∀ i, w.frozen? ⟨g, i, none⟩ = false := ⟨h.cell 0, h.cell 1, h.frozen⟩
/-- boxes that are none: nil, or a struct without a map -/
def NoBox (w : World) (v : Value) : Prop := v = .pointer none ∨ ∃ g, v = .pointer (some ⟨g, 0, none⟩) ∧ Blk w g 61 #[.int .i64 0, .map none]
set_option maxRecDepth 100000 in
set_option maxHeartbeats 400000 in
theorem right_none {w : World} {v : Value} (h : NoBox w v) : Calls Try.prog 30 #[v] w fun e w' => e = .returned (.bool false) ∧ w' = w := by
  rcases h with rfl | ⟨g, rfl, hb⟩
  · go_enter Try.func30, Try.ntmps30
    go_wp2_with fail
    go_ret
    exact ⟨rfl, rfl⟩
  · obtain ⟨c0, c1, cf⟩ := hb.pair
    clear hb
    have kn := fun (w : World) (r : Option Nat) => Go.run_neq_map_nil (P := Try.prog) w 44 2 39 r Try.underlying44
    go_enter Try.func30, Try.ntmps30
    go_wp2_with fail
    go_ret
    exact ⟨rfl, rfl⟩
set_option maxRecDepth 100000 in
set_option maxHeartbeats 400000 in
theorem right_yes {w : World} {g b : Nat} {n : Int} (hb : Blk w g 61 #[.int .i64 n, .map (some b)]) : Calls Try.prog 30 #[.pointer (some ⟨g, 0, none⟩)] w fun e w' => e = .returned (.bool true) ∧ w' = w := by
  obtain ⟨c0, c1, cf⟩ := hb.pair
  clear hb
  have kn := fun (w : World) (r : Option Nat) => Go.run_neq_map_nil (P := Try.prog) w 44 2 39 r Try.underlying44
  go_enter Try.func30, Try.ntmps30
  go_wp2_with fail
  go_ret
  exact ⟨rfl, rfl⟩
set_option maxRecDepth 100000 in
set_option maxHeartbeats 400000 in
theorem len_none {w : World} {v : Value} (h : NoBox w v) (to : Int) : Calls Try.prog 14 #[v, .int .i64 to] w fun e w' => e = .returned (.int .i64 0) ∧ w' = w := by
  have H := hid h
  clear h
  go_enter Try.func14, Try.ntmps14
  go_wp2_with fail
  refine (right_none H.out).mono ?_
  rintro e wx ⟨rfl, rfl⟩
  go_wp2_with fail
  go_ret
  exact ⟨rfl, rfl⟩
set_option maxRecDepth 100000 in
set_option maxHeartbeats 400000 in
theorem len_c {w : World} {g b : Nat} {n : Int} {ms : List (Int × Value)} (hb : Blk w g 61 #[.int .i64 n, .map (some b)]) (hm : IsMap w b ms) (to : Int) (A : Option Addr) (k c : Nat) (hg : (getM to ms).getD (.slice none 0 0) = .slice A k c) :
    Calls Try.prog 14 #[.pointer (some ⟨g, 0, none⟩), .int .i64 to] w fun e w' => e = .returned (.int .i64 k) ∧ w' = w := by
  have HB := hid hb
  have hl := run_look (P := Try.prog) (T := 44) (K := 2) (E := 39) Try.underlying44 Try.underlying2 (z := .slice none 0 0) (by kernel_rfl) hm to
  rw [hg] at hl
  obtain ⟨c0, c1, cf⟩ := hb.pair
  clear hb hm hg
  go_enter Try.func14, Try.ntmps14
  go_wp2_with fail
  refine (right_yes HB.out).mono ?_
  rintro e wx ⟨rfl, rfl⟩
  go_wp2_with fail
  go_ret
  exact ⟨rfl, rfl⟩
set_option maxRecDepth 100000 in
set_option maxHeartbeats 400000 in
theorem drop_none {w : World} {v : Value} (h : NoBox w v) (to : Int) : Calls Try.prog 16 #[v, .int .i64 to] w fun e w' => e = .returned (.int .i64 0) ∧ w' = w := by
  have H := hid h
  clear h
  go_enter Try.func16, Try.ntmps16
  go_wp2_with fail
  refine (len_none H.out to).mono ?_
  rintro e wx ⟨rfl, rfl⟩
  go_wp2_with fail
  refine (right_none H.out).mono ?_
  rintro e wx ⟨rfl, rfl⟩
  go_wp2_with fail
  go_ret
  exact ⟨rfl, rfl⟩
end Go.Proofs.Ytkglndlmjleomaa
