/- LeaseBound: A node whose clock is within the skew, and which keeps whatever it was granted until its own clock reaches its end, uses nothing below an epoch, once it is none of that epoch's holders, and nothing was acked for it. Conditions: none but the statement's own. -/
import Derived.Test.YthcebkbedfaoeaaLeaseBound
import Derived.Test.YthcebkbedfaoeaaRows
import Derived.WalkKit
import Derived.ProofKit
import Derived.OpenShut
import Derived.ShutString
import Derived.ChangeOld
import Derived.Below
import Derived.Lib.SmallJoins
namespace Go.Proofs.Ythcebkbedfaoeaa.rowLeaseBound
open Go.ChangeShapes Go.WideShapes Go.ChangeAt Go.RowKit
open Go.ChangeMaps (open_string shut_string)
set_option linter.unusedVariables false

theorem own : ownKnob Try.prog.godebug = none := by kernel_rfl
theorem laidOut : laidOutB Try.prog = true := by kernel_rfl

set_option maxRecDepth 100000 in
theorem lifted (os : Os) (started : os.Started) (H : Type) (enc : TypeId × Value → H) :
    ReturnsInHanded {} Try.checked os 5 .any (Rows.leaseBoundSpec.pre6 enc Try.prog Try.f5 Rows.leaseBoundRow.domain false) (Rows.leaseBoundSpec.post enc Try.prog Try.f5 false true false false) := by
  refine returnsInHanded_of_change (C := Try.checked) own started (by kernel_rfl) Try.func5
    (ChangeSpec.witness6 (enc := enc) (C := Try.checked) false ⟨#[], #[.slice none 0 0, .agg #[.int .u8 0, .int .u8 0], .agg #[.int .i64 0, .int .i64 0, .int .i64 0]], []⟩ 8 (by kernel_rfl) (by kernel_rfl) (by kernel_rfl) (by kernel_rfl)) ?_
  intro W base args ds gs before hval0 hW hcnd _
  have hval : ∀ (j : Nat) t v, Try.f5.params[j]? = some t → args[j]? = some v → Value.okWide Try.prog W .any base t v := hval0
  have hW' := hW
  obtain ⟨p, q, hA0, hV, rfl, hfz, hnd⟩ := hW
  have hA : DataW.TrodAll enc Try.prog W 0 (fun _ => true) true Try.f5.params.toList args.toList ds p := hA0
  rw [Try.params5] at hA hval
  obtain ⟨v0, vs0, d0, ds0, p0, q0, hargs, rfl, rfl, h0, r0_⟩ := trodAll_cons hA
  obtain ⟨v1, vs1, d1, ds1, p1, q1, rfl, rfl, rfl, h1, r1_⟩ := trodAll_cons r0_
  obtain ⟨v2, vs2, d2, ds2, p2, q2, rfl, rfl, rfl, h2, r2_⟩ := trodAll_cons r1_
  obtain ⟨rfl, rfl, rfl⟩ := trodAll_nil r2_
  obtain rfl : args = #[v0, v1, v2] := by cases args; simp_all
  obtain ⟨rfl, rfl⟩ := trodVars_none hV
  have k0 := h0
  have lt0 : ∀ x ∈ p0, x.block < W.heap.size := by obtain ⟨m, hm⟩ := k0; exact DataW.trod_lt m _ _ _ hm
  have o0 := hval 0 47 v0 rfl rfl
  have k1 := h1
  have lt1 : ∀ x ∈ p1, x.block < W.heap.size := by obtain ⟨m, hm⟩ := k1; exact DataW.trod_lt m _ _ _ hm
  have o1 := hval 1 48 v1 rfl rfl
  have k2 := h2
  have lt2 : ∀ x ∈ p2, x.block < W.heap.size := by obtain ⟨m, hm⟩ := k2; exact DataW.trod_lt m _ _ _ hm
  have o2 := hval 2 49 v2 rfl rfl
  clear hA0 hval0
  obtain ⟨A0, n0, c0, rfl⟩ := okWide_slice Try.underlying47 o0
  obtain ⟨os, l0, r0⟩ : ∃ os : List Op6, os.length = n0 ∧ RdP W (.slice A0 n0 c0) os := by
    obtain ⟨fuel, hf⟩ := h0
    obtain ⟨A', c', ys, hcs, hr⟩ := opsP_of_trod Try.underlying47 Try.underlying23 (by kernel_rfl) (by intro g hg; simp only [List.mem_cons, List.not_mem_nil, or_false] at hg; rcases hg with rfl | rfl | rfl | rfl | rfl | rfl <;> exact ⟨Try.underlying3, by kernel_rfl⟩) ⟨by kernel_rfl, by kernel_rfl, by kernel_rfl, by kernel_rfl, by kernel_rfl, by kernel_rfl⟩ hf
    simp [Value.cells] at hcs
    obtain ⟨rfl, rfl, rfl⟩ := hcs
    exact ⟨ys, rfl, hr⟩
  subst l0
  obtain ⟨xs, rfl, hxl, hxw⟩ := arr_of Try.underlying48 Try.underlying5 (by kernel_rfl) (by kernel_rfl) o1 h1
  obtain ⟨x0, x1, rfl⟩ := (show ∀ l : List Int, l.length = 2 → ∃ p q, l = [p, q] from fun l h => match l, h with | [p, q], _ => ⟨p, q, rfl⟩) xs hxl
  have q0 : 0 ≤ x0 ∧ x0 ≤ 255 := by simpa [Lit.wf, IntKind.min, IntKind.max, IntKind.signed, IntKind.bits] using hxw x0 (by simp)
  have q1 : 0 ≤ x1 ∧ x1 ≤ 255 := by simpa [Lit.wf, IntKind.min, IntKind.max, IntKind.signed, IntKind.bits] using hxw x1 (by simp)
  obtain ⟨x0, rfl⟩ := Int.eq_ofNat_of_zero_le q0.1
  obtain ⟨x1, rfl⟩ := Int.eq_ofNat_of_zero_le q1.1
  obtain ⟨zs, rfl, hzl, hzw⟩ := arr_of Try.underlying49 Try.underlying3 (by kernel_rfl) (by kernel_rfl) o2 h2
  obtain ⟨z0, z1, z2, rfl⟩ := (show ∀ l : List Int, l.length = 3 → ∃ p q r, l = [p, q, r] from fun l h => match l, h with | [p, q, r], _ => ⟨p, q, r, rfl⟩) zs hzl
  have s0 : Is64 z0 := by simpa [Is64, Lit.wf, IntKind.min, IntKind.max, IntKind.signed, IntKind.bits] using hzw z0 (by simp)
  have s1 : Is64 z1 := by simpa [Is64, Lit.wf, IntKind.min, IntKind.max, IntKind.signed, IntKind.bits] using hzw z1 (by simp)
  have s2 : Is64 z2 := by simpa [Is64, Lit.wf, IntKind.min, IntKind.max, IntKind.signed, IntKind.bits] using hzw z2 (by simp)
  have hc := leaseBound_c _ os x0 x1 (by omega) (by omega) z0 z1 z2 s0 s1 s2 W r0
  refine hc.mono fun e W' ⟨he, hf⟩ => ?_
  have bel : Below W.heap.size W W' := hf.below (fun _ _ => not_no _) (Nat.le_refl _)
  subst he
  exact ⟨_, rfl, _, _, _, [], _, [], hW', trodAll_mk1 (shut_bool Try.underlying4 _), (trodAll_cons_mk (Below.trod laidOut (by kernel_rfl) (of_decide_eq_true (by kernel_rfl)) k0 bel lt0) (trodAll_cons_mk (Below.trod laidOut (by kernel_rfl) (of_decide_eq_true (by kernel_rfl)) k1 bel lt1) (trodAll_cons_mk (Below.trod laidOut (by kernel_rfl) (of_decide_eq_true (by kernel_rfl)) k2 bel lt2) (trodAll_mk0)))), rfl, bel.frame _, fun h => by cases h⟩

theorem over : Rows.leaseBoundRow.holds Try.pinned (OpenSpec.ofChange Rows.leaseBoundSpec) :=
  OpenClaim.holds_of_wide 5 Try.f5 rfl rfl rfl rfl rfl rfl rfl ⟨rfl, rfl, rfl, rfl, rfl⟩ rfl rfl rfl rfl rfl (by kernel_rfl) Try.func5 (by kernel_rfl)
    (of_decide_eq_true (by kernel_rfl)) (by unfold Func.isWrapper; first | (rw [if_pos (by decide +kernel)]; kernel_rfl) | (rw [if_neg (by decide +kernel)]; exact ⟨rfl, rfl⟩))
    (fun os started H enc _ => lifted os started H enc)

/-- the statement -/
theorem proved : Rows.LeaseBoundSaid := over
#print axioms proved
end Go.Proofs.Ythcebkbedfaoeaa.rowLeaseBound
