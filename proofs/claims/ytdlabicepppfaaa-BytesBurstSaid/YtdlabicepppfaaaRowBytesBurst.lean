/- BytesBurst: If up to four bytes next to each other are others, the sum is another one: what is sealed is refused. Conditions: none but the statement's own. -/
import Derived.Test.YtdlabicepppfaaaBytesBurst
import Derived.Test.YtdlabicepppfaaaRows
import Derived.WalkKit
import Derived.ProofKit
import Derived.OpenShut
import Derived.ShutString
import Derived.ChangeOld
import Derived.Below
import Derived.Lib.SmallJoins
namespace Go.Proofs.Ytdlabicepppfaaa.rowBytesBurst
open Go.ChangeShapes Go.WideShapes Go.ChangeAt Go.RowKit
open Go.ChangeMaps (open_string shut_string)
set_option linter.unusedVariables false

theorem own : ownKnob Try.prog.godebug = none := by kernel_rfl
theorem laidOut : laidOutB Try.prog = true := by kernel_rfl

set_option maxRecDepth 100000 in
theorem lifted (os : Os) (started : os.Started) (H : Type) (enc : TypeId × Value → H) :
    ReturnsInHanded {} Try.checked os 7 .any (Rows.bytesBurstSpec.pre6 enc Try.prog Try.f7 Rows.bytesBurstRow.domain false) (Rows.bytesBurstSpec.post enc Try.prog Try.f7 false true false false) := by
  refine returnsInHanded_of_change (C := Try.checked) own started (by kernel_rfl) Try.func7
    (ChangeSpec.witness6 (enc := enc) (C := Try.checked) false ⟨#[], #[.slice none 0 0, .int .i64 0, .agg #[.int .u8 0, .int .u8 0, .int .u8 0, .int .u8 0]], []⟩ 8 (by kernel_rfl) (by kernel_rfl) (by kernel_rfl) (by kernel_rfl)) ?_
  intro W base args ds gs before hval0 hW hcnd _
  have hval : ∀ (j : Nat) t v, Try.f7.params[j]? = some t → args[j]? = some v → Value.okWide Try.prog W .any base t v := hval0
  have hW' := hW
  obtain ⟨p, q, hA0, hV, rfl, hfz, hnd⟩ := hW
  have hA : DataW.TrodAll enc Try.prog W 0 (fun _ => true) true Try.f7.params.toList args.toList ds p := hA0
  rw [Try.params7] at hA hval
  obtain ⟨v0, vs0, d0, ds0, p0, q0, hargs, rfl, rfl, h0, r0_⟩ := trodAll_cons hA
  obtain ⟨v1, vs1, d1, ds1, p1, q1, rfl, rfl, rfl, h1, r1_⟩ := trodAll_cons r0_
  obtain ⟨v2, vs2, d2, ds2, p2, q2, rfl, rfl, rfl, h2, r2_⟩ := trodAll_cons r1_
  obtain ⟨rfl, rfl, rfl⟩ := trodAll_nil r2_
  obtain rfl : args = #[v0, v1, v2] := by cases args; simp_all
  obtain ⟨rfl, rfl⟩ := trodVars_none hV
  have k0 := h0
  have lt0 : ∀ x ∈ p0, x.block < W.heap.size := by obtain ⟨m, hm⟩ := k0; exact DataW.trod_lt m _ _ _ hm
  have o0 := hval 0 24 v0 rfl rfl
  obtain ⟨A0, n0, c0, rfl⟩ := okWide_slice Try.underlying24 o0
  obtain ⟨y0, l0, r0⟩ : ∃ ys : List UInt8, ys.length = n0 ∧ RdB W (.slice A0 n0 c0) ys := by
    obtain ⟨fuel, hf⟩ := h0
    rcases open_ints Try.underlying24 Try.underlying5 (by kernel_rfl) hf with ⟨hcs, _⟩ | ⟨x, l, c, zs, hcs, _, hl, hm, hz, _, hcell, hwz⟩
    · simp [Value.cells] at hcs
      obtain ⟨rfl, rfl, rfl⟩ := hcs
      exact rdb_of_row (zs := []) (.inl ⟨rfl, rfl, rfl, rfl⟩)
    · simp [Value.cells] at hcs
      obtain ⟨rfl, rfl, rfl⟩ := hcs
      exact rdb_of_row (zs := zs) (.inr ⟨_, rfl, hl, hm, by simpa using hz, hcell, hwz⟩)
  obtain ⟨a1, rfl, rfl, rfl, w1⟩ := open_int Try.underlying3 (hval 1 3 v1 rfl rfl) h1
  have b1 : -9223372036854775808 ≤ a1 ∧ a1 ≤ 9223372036854775807 := by simpa [Lit.wf, IntKind.min, IntKind.max, IntKind.signed, IntKind.bits] using w1
  have k2 := h2
  have lt2 : ∀ x ∈ p2, x.block < W.heap.size := by obtain ⟨m, hm⟩ := k2; exact DataW.trod_lt m _ _ _ hm
  have o2 := hval 2 46 v2 rfl rfl
  clear hA0 hval0
  have hk : ∃ t0 t1 t2 t3 : UInt8, v2 = .agg #[bv t0, bv t1, bv t2, bv t3] := by
    obtain ⟨cs, rfl, hcs, _⟩ : ∃ cs, v2 = .agg cs ∧ cs.size = Try.prog.cellsOf 46 ∧ Row.okWide Try.prog W .any base 46 cs := by
      have h := o2
      unfold Value.okWide at h
      rw [Try.underlying46] at h
      exact h
    rw [show Try.prog.cellsOf 46 = 4 by kernel_rfl] at hcs
    obtain ⟨c0, c1, c2, c3, rfl⟩ := Go.Joins.array4 hcs
    obtain ⟨fuel, hf⟩ := h2
    obtain ⟨xs, m, rfl, _, _, hxl, hx⟩ := DataW.trod_array Try.underlying46 hf
    have e1 : Try.prog.cellsOf 5 = 1 := by kernel_rfl
    rw [e1] at hx
    have one : ∀ (i : Nat) (c : Value), i < 4 → [c0, c1, c2, c3][i]? = some c → ∃ t : UInt8, c = bv t := by
      intro i c hi hc
      have h := hx i hi
      rw [List.getElem?_eq_getElem (show i < xs.length by omega)] at h
      have hd : (((Value.agg #[c0, c1, c2, c3]).cells.toList.drop (i * 1)).take 1) = [c] := by
        rw [Nat.mul_one]
        rcases i with _ | _ | _ | _ | i <;> first | (exfalso; omega) | (simp at hc; subst hc; rfl)
      rw [hd] at h
      obtain ⟨k, hk, _, wk⟩ := DataW.trod_int Try.underlying5 h
      injection hk with hk _
      have h4 : 0 ≤ k ∧ k ≤ 255 := by simpa [Lit.wf, IntKind.min, IntKind.max, IntKind.signed, IntKind.bits] using wk
      exact ⟨UInt8.ofNat k.toNat, by rw [hk]; simp [bv]; omega⟩
    obtain ⟨t0, rfl⟩ := one 0 c0 (by omega) rfl
    obtain ⟨t1, rfl⟩ := one 1 c1 (by omega) rfl
    obtain ⟨t2, rfl⟩ := one 2 c2 (by omega) rfl
    obtain ⟨t3, rfl⟩ := one 3 c3 (by omega) rfl
    exact ⟨t0, t1, t2, t3, rfl⟩
  obtain ⟨t0, t1, t2, t3, rfl⟩ := hk
  subst l0
  have hc : Calls Try.prog 7 #[.slice A0 y0.length c0, .int .i64 a1, .agg #[bv t0, bv t1, bv t2, bv t3]] W (RetT W) := by
    by_cases h : 0 < y0.length ∧ y0.length ≤ 500
    · exact bytesBurst_c _ y0 a1 t0 t1 t2 t3 W r0 h.1 h.2 b1.1 b1.2
    · exact bytesBurst_small _ y0 a1 t0 t1 t2 t3 W r0 (by omega)
  refine hc.mono fun e W' ⟨he, hf⟩ => ?_
  have bel : Below W.heap.size W W' := hf.below (fun _ _ => not_no _) (Nat.le_refl _)
  subst he
  exact ⟨_, rfl, _, _, _, [], _, [], hW', trodAll_mk1 (shut_bool Try.underlying4 _), (trodAll_cons_mk (Below.trod laidOut (by kernel_rfl) (of_decide_eq_true (by kernel_rfl)) k0 bel lt0) (trodAll_cons_mk (shut_int Try.underlying3 w1) (trodAll_cons_mk (Below.trod laidOut (by kernel_rfl) (of_decide_eq_true (by kernel_rfl)) k2 bel lt2) (trodAll_mk0)))), rfl, bel.frame _, fun h => by cases h⟩

theorem over : Rows.bytesBurstRow.holds Try.pinned (OpenSpec.ofChange Rows.bytesBurstSpec) :=
  OpenClaim.holds_of_wide 7 Try.f7 rfl rfl rfl rfl rfl rfl rfl ⟨rfl, rfl, rfl, rfl, rfl⟩ rfl rfl rfl rfl rfl (by kernel_rfl) Try.func7 (by kernel_rfl)
    (of_decide_eq_true (by kernel_rfl)) (by unfold Func.isWrapper; first | (rw [if_pos (by decide +kernel)]; kernel_rfl) | (rw [if_neg (by decide +kernel)]; exact ⟨rfl, rfl⟩))
    (fun os started H enc _ => lifted os started H enc)

/-- the statement -/
theorem proved : Rows.BytesBurstSaid := over
#print axioms proved
end Go.Proofs.Ytdlabicepppfaaa.rowBytesBurst
