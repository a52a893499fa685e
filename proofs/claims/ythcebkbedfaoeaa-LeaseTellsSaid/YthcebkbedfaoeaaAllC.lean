import Derived.Test.YthcebkbedfaoeaaAllB
import Derived.Shelf.SlSortCmp.WholeK
import Derived.Shelf.Lay
import Derived.Ground.SlsfProg
import Derived.Deep.RegionHeldLaw
import Derived.Deep.DrawnRows
/-! A table's leases in order: the comparison, the sort. -/
namespace Go.Proofs
open Go.Shelf
shelf_lay_g SlLaysF0.n6 Slsf 6 at Try 34 as Try.sortLease
end Go.Proofs
namespace Go.Proofs.Ythcebkbedfaoeaa
open Go.RowKit Go.Shelf Go.Lib Go.Sort
set_option linter.unusedVariables false
set_option linter.unusedSimpArgs false
attribute [local go_sem ↓] Go.wp_at_zero Go.wp_at_succ

def cmpI (a b : Int) : Int := if a < b then -1 else if b < a then 1 else 0
def orI (a b c : Int) : Int := if a = 0 then (if b = 0 then c else b) else a
def cmpL (x y : Ls) : Int := orI (cmpI x.node y.node) (cmpI x.version y.version) (cmpI x.fn y.fn)
set_option maxRecDepth 100000 in
set_option maxHeartbeats 400000 in
theorem isNaN_c (a : Int) (w : World) : Calls Try.prog 47 #[.int .i64 a] w fun e w' => e = .returned (.bool false) ∧ w' = w := by
  have h1 : (a != a) = false := by simp
  go_enter Try.func47, Try.ntmps47
  go_wp2_with fail
  go_ret
  exact ⟨rfl, rfl⟩
set_option maxRecDepth 100000 in
set_option maxHeartbeats 400000 in
theorem compare_c (a b : Int) (w : World) : Calls Try.prog 37 #[.int .i64 a, .int .i64 b] w fun e w' => e = .returned (.int .i64 (cmpI a b)) ∧ w' = w := by
  unfold cmpI
  by_cases h1 : a < b
  · rw [if_pos h1]
    go_enter Try.func37, Try.ntmps37
    go_wp2_with (go_at_call 47; refine (isNaN_c _ _).mono ?_; rintro e w' ⟨rfl, rfl⟩)
    go_ret
    exact ⟨rfl, rfl⟩
  · rw [if_neg h1]
    by_cases h2 : b < a
    · rw [if_pos h2]
      go_enter Try.func37, Try.ntmps37
      go_wp2_with (go_at_call 47; refine (isNaN_c _ _).mono ?_; rintro e w' ⟨rfl, rfl⟩)
      go_ret
      exact ⟨rfl, rfl⟩
    · rw [if_neg h2]
      go_enter Try.func37, Try.ntmps37
      go_wp2_with (go_at_call 47; refine (isNaN_c _ _).mono ?_; rintro e w' ⟨rfl, rfl⟩)
      go_ret
      exact ⟨rfl, rfl⟩
set_option maxRecDepth 100000 in
set_option maxHeartbeats 1000000 in
theorem or_c (a b c : Int) (g : Nat) (w : World) (h0 : w.cell? ⟨g, 0, none⟩ = some (.int .i64 a)) (h1 : w.cell? ⟨g, 1, none⟩ = some (.int .i64 b)) (h2 : w.cell? ⟨g, 2, none⟩ = some (.int .i64 c)) :
    Calls Try.prog 36 #[.slice (some ⟨g, 0, none⟩) 3 3] w fun e w' => e = .returned (.int .i64 (orI a b c)) ∧ w' = w := by
  unfold orI
  by_cases ha : a = 0
  · subst ha
    rw [if_pos rfl]
    by_cases hb : b = 0
    · subst hb
      rw [if_pos rfl]
      by_cases hc : c = 0
      · subst hc
        go_enter Try.func36, Try.ntmps36
        go_wp2_with fail
        refine wp_loop_rounds 4 ?_
        unfold Code.rounds
        go_wp2_with fail
        unfold Code.rounds
        go_wp2_with fail
        unfold Code.rounds
        go_wp2_with fail
        unfold Code.rounds
        go_wp2_with fail
        go_ret
        exact ⟨rfl, rfl⟩
      · have hc2 : (c != 0) = true := bne_iff_ne.2 hc
        go_enter Try.func36, Try.ntmps36
        go_wp2_with fail
        refine wp_loop_rounds 3 ?_
        unfold Code.rounds
        go_wp2_with fail
        unfold Code.rounds
        go_wp2_with fail
        unfold Code.rounds
        go_wp2_with fail
        go_ret
        exact ⟨rfl, rfl⟩
    · rw [if_neg hb]
      have hb2 : (b != 0) = true := bne_iff_ne.2 hb
      go_enter Try.func36, Try.ntmps36
      go_wp2_with fail
      refine wp_loop_rounds 2 ?_
      unfold Code.rounds
      go_wp2_with fail
      unfold Code.rounds
      go_wp2_with fail
      go_ret
      exact ⟨rfl, rfl⟩
  · rw [if_neg ha]
    have ha2 : (a != 0) = true := bne_iff_ne.2 ha
    go_enter Try.func36, Try.ntmps36
    go_wp2_with fail
    refine wp_loop_rounds 1 ?_
    unfold Code.rounds
    go_wp2_with fail
    go_ret
    exact ⟨rfl, rfl⟩
theorem grow3 (W : World) (X Y R : Obj) : (((W.alloc X).alloc Y).drew).alloc R = grow (W.drewN 1) (#[X] ++ #[Y] ++ #[R]) := by
  have : ((W.alloc X).alloc Y).drew = grow (W.drewN 1) (#[X] ++ #[Y]) := by
    rw [alloc_eq_grow, alloc_eq_grow, grow_grow]
    rfl
  rw [this, alloc_eq_grow, grow_grow]
set_option maxRecDepth 100000 in
set_option maxHeartbeats 2000000 in
theorem cmpL_c (x y : Ls) (W : World) : Calls Try.prog 35 #[x.val, y.val] W fun e w' => e = .returned (.int .i64 (cmpL x y)) ∧ ∃ q os', w' = grow (W.drewN q) os' := by
  obtain ⟨a0, a1, a2, a3, a4⟩ := x
  obtain ⟨b0, b1, b2, b3, b4⟩ := y
  unfold Ls.val Ls.cells
  dsimp only
  obtain ⟨V, hV⟩ : ∃ V, (W.alloc (.cells #[.int .i64 a0, .int .i64 a1, .int .i64 a2, .int .i64 a3, .int .i64 a4] 30)).alloc (.cells #[.int .i64 b0, .int .i64 b1, .int .i64 b2, .int .i64 b3, .int .i64 b4] 30) = V := ⟨_, rfl⟩
  have HV := hid hV
  have HX := hid (show Blk V W.heap.size 30 #[.int .i64 a0, .int .i64 a1, .int .i64 a2, .int .i64 a3, .int .i64 a4] from hV ▸ (Blk.new W _ _).alloc _)
  have HY := hid (show Blk V (W.heap.size + 1) 30 #[.int .i64 b0, .int .i64 b1, .int .i64 b2, .int .i64 b3, .int .i64 b4] from hV ▸ by
    have := Blk.new (W.alloc (.cells #[.int .i64 a0, .int .i64 a1, .int .i64 a2, .int .i64 a3, .int .i64 a4] 30)) 30 #[.int .i64 b0, .int .i64 b1, .int .i64 b2, .int .i64 b3, .int .i64 b4]
    rwa [show (W.alloc (.cells #[.int .i64 a0, .int .i64 a1, .int .i64 a2, .int .i64 a3, .int .i64 a4] 30)).heap.size = W.heap.size + 1 by simp] at this)
  have KS := hid (show ∀ w', Fr No V w' → w'.cell? ⟨W.heap.size, 0, none⟩ = some (.int .i64 a0) ∧ w'.cell? ⟨W.heap.size, 1, none⟩ = some (.int .i64 a1) ∧ w'.cell? ⟨W.heap.size, 2, none⟩ = some (.int .i64 a2) ∧ w'.cell? ⟨W.heap.size + 1, 0, none⟩ = some (.int .i64 b0) ∧ w'.cell? ⟨W.heap.size + 1, 1, none⟩ = some (.int .i64 b1) ∧ w'.cell? ⟨W.heap.size + 1, 2, none⟩ = some (.int .i64 b2) from fun w' hf => by
    have h1 := HX.out.keep hf (not_no _)
    have h2 := HY.out.keep hf (not_no _)
    exact ⟨h1.cell 0, h1.cell 1, h1.cell 2, h2.cell 0, h2.cell 1, h2.cell 2⟩)
  clear hV
  unfold cmpL
  dsimp only
  go_enter Try.func35, Try.ntmps35
  go_upto_region 1 with fail
  rw [HV.out]
  go_region_held_law (fun w' => w'.cell? ⟨W.heap.size, 0, none⟩ = some (.int .i64 a0) ∧ w'.cell? ⟨W.heap.size, 1, none⟩ = some (.int .i64 a1) ∧ w'.cell? ⟨W.heap.size, 2, none⟩ = some (.int .i64 a2) ∧ w'.cell? ⟨W.heap.size + 1, 0, none⟩ = some (.int .i64 b0) ∧ w'.cell? ⟨W.heap.size + 1, 1, none⟩ = some (.int .i64 b1) ∧ w'.cell? ⟨W.heap.size + 1, 2, none⟩ = some (.int .i64 b2))
    ((refine KS.out _ ?_; with_reducible first | exact (Fr.refl _ V).drew | exact ((Fr.refl _ V).drew).alloc _ | exact ((Fr.refl _ V).alloc _).drew | exact Fr.refl _ V))
    (first
      | (go_at_call 37; refine (compare_c _ _ _).mono ?_; rintro e w' ⟨rfl, rfl⟩)
      | (go_at_call 36; refine (or_c (cmpI a0 b0) (cmpI a1 b1) (cmpI a2 b2) _ _ ((Blk.new V 3 #[.int .i64 (cmpI a0 b0), .int .i64 (cmpI a1 b1), .int .i64 (cmpI a2 b2)]).drew.cell 0) ((Blk.new V 3 #[.int .i64 (cmpI a0 b0), .int .i64 (cmpI a1 b1), .int .i64 (cmpI a2 b2)]).drew.cell 1) ((Blk.new V 3 #[.int .i64 (cmpI a0 b0), .int .i64 (cmpI a1 b1), .int .i64 (cmpI a2 b2)]).drew.cell 2)).mono ?_; rintro e w' ⟨rfl, rfl⟩))
  all_goals
    go_wp2_with fail
    go_ret
    have hg := grow3 W (.cells #[.int .i64 a0, .int .i64 a1, .int .i64 a2, .int .i64 a3, .int .i64 a4] 30) (.cells #[.int .i64 b0, .int .i64 b1, .int .i64 b2, .int .i64 b3, .int .i64 b4] 30) (.cells #[.int .i64 (cmpI a0 b0), .int .i64 (cmpI a1 b1), .int .i64 (cmpI a2 b2)] 3)
    rw [HV.out] at hg
    exact ⟨rfl, 1, _, hg⟩
end Go.Proofs.Ythcebkbedfaoeaa
