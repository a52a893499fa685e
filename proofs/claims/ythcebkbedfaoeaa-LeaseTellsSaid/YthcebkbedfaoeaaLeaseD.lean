import Derived.Test.YthcebkbedfaoeaaLeaseC
/-! What stands; what an ack and an expiry ask of each lease. -/
namespace Go.Proofs.Ythcebkbedfaoeaa
open Go.RowKit
set_option linter.unusedVariables false
set_option linter.unusedSimpArgs false

def stands (x : Ls) (s tick : Int) : Bool := decide (tick < x.till + s)
set_option maxRecDepth 100000 in
set_option maxHeartbeats 1000000 in
theorem stands_c {w : World} {g : Nat} {n l m : Value} {s : Int} (hb : Blk w g 27 #[n, l, .int .i64 s, m]) (x : Ls) (tick : Int) (hx : 0 ≤ x.till ∧ x.till ≤ 4611686018427387904) (hs : 0 ≤ s ∧ s ≤ 1048576) :
    Calls Try.prog 29 #[.pointer (some ⟨g, 0, none⟩), x.val, .int .i64 tick] w fun e w' => e = .returned (.bool (stands x s tick)) ∧ Fr No w w' := by
  obtain ⟨a0, a1, a2, a3, a4⟩ := x
  replace hx : 0 ≤ a4 ∧ a4 ≤ 4611686018427387904 := hx
  have hwr : IntKind.i64.wrap (a4 + s) = a4 + s := by rw [IntKind.wrap_i64]; omega
  obtain ⟨W, hW⟩ : ∃ W, w.alloc (.cells #[.int .i64 a0, .int .i64 a1, .int .i64 a2, .int .i64 a3, .int .i64 a4] 30) = W := ⟨_, rfl⟩
  have HW := hid hW
  have FW := hid (show Fr No w W from hW ▸ (Fr.refl No w).alloc _)
  have HX := hid (show Blk W w.heap.size 30 #[.int .i64 a0, .int .i64 a1, .int .i64 a2, .int .i64 a3, .int .i64 a4] from hW ▸ Blk.new w _ _)
  have HB := hid (hb.keep FW.out (not_no _))
  have c2 := HB.out.cell 2
  have x4 := HX.out.cell 4
  clear hW hb
  unfold Ls.val Ls.cells
  dsimp only
  go_enter Try.func29, Try.ntmps29
  go_wp2_with fail
  rw [HW.out]
  go_quiet (fail)
  go_wp2_with fail
  go_ret
  exact ⟨rfl, FW.out.drewN _⟩
def goesA (nd ep : Int) (x : Ls) : Bool := (x.node == nd) && decide (x.epoch < ep)
def goesE (s tick : Int) (x : Ls) : Bool := !stands x s tick
set_option maxRecDepth 100000 in
set_option maxHeartbeats 1000000 in
theorem predA_c (w : World) (x : Ls) (p1 p2 : Nat) (nd ep : Int) (h1 : w.cell? ⟨p1, 0, none⟩ = some (.int .i64 nd)) (h2 : w.cell? ⟨p2, 0, none⟩ = some (.int .i64 ep)) :
    Calls Try.prog 27 #[x.val, .pointer (some ⟨p1, 0, none⟩), .pointer (some ⟨p2, 0, none⟩)] w fun e w' => e = .returned (.bool (goesA nd ep x)) ∧ Fr No w w' := by
  obtain ⟨a0, a1, a2, a3, a4⟩ := x
  have k1 : (w.alloc (.cells #[.int .i64 a0, .int .i64 a1, .int .i64 a2, .int .i64 a3, .int .i64 a4] 30)).cell? ⟨p1, 0, none⟩ = some (.int .i64 nd) := Lib.cell?_alloc_some _ h1
  have k2 : (w.alloc (.cells #[.int .i64 a0, .int .i64 a1, .int .i64 a2, .int .i64 a3, .int .i64 a4] 30)).cell? ⟨p2, 0, none⟩ = some (.int .i64 ep) := Lib.cell?_alloc_some _ h2
  unfold goesA Ls.val Ls.cells
  dsimp only
  by_cases c : a0 = nd
  · subst c
    go_enter Try.func27, Try.ntmps27
    go_wp2_with fail
    go_ret
    exact ⟨by simp, (Fr.refl No w).alloc _⟩
  · have d : (a0 == nd) = false := by rw [beq_eq_false_iff_ne]; exact c
    go_enter Try.func27, Try.ntmps27
    go_wp2_with fail
    go_ret
    exact ⟨by simp [d], (Fr.refl No w).alloc _⟩
set_option maxRecDepth 100000 in
set_option maxHeartbeats 1000000 in
theorem predE_c (w : World) (x : Ls) (p1 p2 : Nat) (g : Nat) (n l m : Value) (s tick : Int) (hb : Blk w g 27 #[n, l, .int .i64 s, m]) (h1 : w.cell? ⟨p1, 0, none⟩ = some (.pointer (some ⟨g, 0, none⟩))) (h2 : w.cell? ⟨p2, 0, none⟩ = some (.int .i64 tick))
    (hx : 0 ≤ x.till ∧ x.till ≤ 4611686018427387904) (hs : 0 ≤ s ∧ s ≤ 1048576) :
    Calls Try.prog 28 #[x.val, .pointer (some ⟨p1, 0, none⟩), .pointer (some ⟨p2, 0, none⟩)] w fun e w' => e = .returned (.bool (goesE s tick x)) ∧ Fr No w w' := by
  have HS := hid (fun (w' : World) (hf : Fr No w w') => stands_c (hb.keep hf (not_no _)) x tick hx hs)
  obtain ⟨a0, a1, a2, a3, a4⟩ := x
  have k1 : (w.alloc (.cells #[.int .i64 a0, .int .i64 a1, .int .i64 a2, .int .i64 a3, .int .i64 a4] 30)).cell? ⟨p1, 0, none⟩ = some (.pointer (some ⟨g, 0, none⟩)) := Lib.cell?_alloc_some _ h1
  have k2 : (w.alloc (.cells #[.int .i64 a0, .int .i64 a1, .int .i64 a2, .int .i64 a3, .int .i64 a4] 30)).cell? ⟨p2, 0, none⟩ = some (.int .i64 tick) := Lib.cell?_alloc_some _ h2
  clear hb
  unfold goesE Ls.val Ls.cells
  dsimp only
  go_enter Try.func28, Try.ntmps28
  go_wp2_with fail
  refine (HS.out _ ((Fr.refl No w).alloc _)).mono ?_
  rintro e w1 ⟨rfl, f1⟩
  have F1 := hid (((Fr.refl No w).alloc _).fresh_no f1)
  clear f1
  go_wp2_with fail
  go_ret
  exact ⟨rfl, F1.out⟩
end Go.Proofs.Ythcebkbedfaoeaa
