import Derived.Test.YthcebkbedfaoeaaLeaseH
import Derived.Test.YthcebkbedfaoeaaRowKit
import Derived.Deep.Strs
/-! LeaseNone. -/
namespace Go.Proofs.Ythcebkbedfaoeaa
open Go.RowKit Go.ChangeShapes Go.WideShapes
set_option linter.unusedVariables false
set_option linter.unusedSimpArgs false

set_option maxRecDepth 100000 in
theorem index_two (p q : Value) (w : World) : (Instr.index 28 (.agg #[p, q]) (.int .i64 0)).run Try.prog w = .ok p w ∧ (Instr.index 28 (.agg #[p, q]) (.int .i64 1)).run Try.prog w = .ok q w := by
  have hu := Try.underlying28
  constructor
  · simp [Instr.index, run_underlying hu, go_sem]
  · simp [Instr.index, run_underlying hu, go_sem]
section
variable {H : Type} {enc : TypeId × Value → H} {P : Program} {w : World} {base : Nat} {held : Bool} {spare : Nat → Bool}
theorem six (l : List Value) (h : l.length = 6) : ∃ a b c d e f, l = [a, b, c, d, e, f] := by
  match l, h with
  | [a, b, c, d, e, f], _ => exact ⟨a, b, c, d, e, f, rfl⟩
theorem six_ints {t : TypeId} {f0 f1 f2 f3 f4 f5 : Field} {fuel : Nat} {a b c d e f : Value} {x : DataW H × List MemPlace} (ht : P.underlying t = some (.struct #[f0, f1, f2, f3, f4, f5]))
    (hi : ∀ g ∈ [f0, f1, f2, f3, f4, f5], P.underlying g.type = some (.int .i64) ∧ P.cellsOf g.type = 1) (ho : f0.offset = 0 ∧ f1.offset = 1 ∧ f2.offset = 2 ∧ f3.offset = 3 ∧ f4.offset = 4 ∧ f5.offset = 5) (h : DataW.trod enc P w base spare held fuel t [a, b, c, d, e, f] = some x) :
    ∃ z0 z1 z2 z3 z4 z5, a = .int .i64 z0 ∧ b = .int .i64 z1 ∧ c = .int .i64 z2 ∧ d = .int .i64 z3 ∧ e = .int .i64 z4 ∧ f = .int .i64 z5 := by
  obtain ⟨xs, n, _, _, _, hlen, hg⟩ := DataW.trod_struct ht h
  have h6 : xs.length = 6 := by simpa using hlen
  have one : ∀ (i : Nat) (g : Field) (v : Value), i < 6 → (#[f0, f1, f2, f3, f4, f5] : Array Field)[i]? = some g → g ∈ [f0, f1, f2, f3, f4, f5] → g.offset = i → ([a, b, c, d, e, f].drop i).take 1 = [v] → ∃ z, v = .int .i64 z := fun i g v hi6 hgi hm hoff hd => by
    have h3 := hg i g hgi
    rw [(hi g hm).2, hoff, List.getElem?_eq_getElem (by omega), hd] at h3
    obtain ⟨z, hz, _⟩ := i64_of_trod (w := w) (hi g hm).1 h3
    exact ⟨z, by simpa using hz⟩
  obtain ⟨z0, h0⟩ := one 0 f0 a (by omega) rfl (by simp) ho.1 rfl
  obtain ⟨z1, h1⟩ := one 1 f1 b (by omega) rfl (by simp) ho.2.1 rfl
  obtain ⟨z2, h2⟩ := one 2 f2 c (by omega) rfl (by simp) ho.2.2.1 rfl
  obtain ⟨z3, h3⟩ := one 3 f3 d (by omega) rfl (by simp) ho.2.2.2.1 rfl
  obtain ⟨z4, h4⟩ := one 4 f4 e (by omega) rfl (by simp) ho.2.2.2.2.1 rfl
  obtain ⟨z5, h5⟩ := one 5 f5 f (by omega) rfl (by simp) ho.2.2.2.2.2 rfl
  exact ⟨z0, z1, z2, z3, z4, z5, h0, h1, h2, h3, h4, h5⟩
set_option maxRecDepth 100000 in
theorem op_of_trod {cs : Array Value} {d : DataW H} {p : List MemPlace} (hs : cs.size = 6) (h : DataW.Trod enc Try.prog w base spare held 23 (.agg cs) d p) : ∃ z0 z1 z2 z3 z4 z5, cs = #[.int .i64 z0, .int .i64 z1, .int .i64 z2, .int .i64 z3, .int .i64 z4, .int .i64 z5] := by
  obtain ⟨l⟩ := cs
  obtain ⟨a, b, c, d, e, f, rfl⟩ := six l hs
  obtain ⟨fuel, hf⟩ := h
  obtain ⟨z0, z1, z2, z3, z4, z5, rfl, rfl, rfl, rfl, rfl, rfl⟩ := six_ints Try.underlying23 (by intro g hg; simp at hg; rcases hg with rfl | rfl | rfl | rfl | rfl | rfl <;> exact ⟨Try.underlying3, by kernel_rfl⟩) ⟨rfl, rfl, rfl, rfl, rfl, rfl⟩ hf
  exact ⟨z0, z1, z2, z3, z4, z5, rfl⟩
end
set_option maxRecDepth 100000 in
set_option maxHeartbeats 1000000 in
theorem leaseNone_c (a0 a1 a2 a3 a4 a5 : Int) (w : World) : Calls Try.prog 3 #[.agg #[.int .i64 a0, .int .i64 a1, .int .i64 a2, .int .i64 a3, .int .i64 a4, .int .i64 a5]] w (RetT w) := by
  go_enter Try.func3, Try.ntmps3
  go_wp2_with fail
  go_loopg [12] 2 (fun q v12 w' => ∃ i : Nat, v12 = .int .i64 i ∧ i ≤ 2 ∧ q = 2 - i ∧ Hid (Blk w' w.heap.size 23 #[.int .i64 a0, .int .i64 a1, .int .i64 a2, .int .i64 a3, .int .i64 a4, .int .i64 a5]) ∧ Hid (NoTab w' (.pointer (some ⟨w.heap.size + 1, 0, none⟩))) ∧ Hid (Fr No w w'))
  case atStart =>
    refine ⟨0, rfl, by omega, rfl, (Blk.new w _ _).alloc _, .inr ⟨_, rfl, ?_⟩, ((Fr.refl No w).alloc _).alloc _⟩
    have := Blk.new (w.alloc (.cells #[.int .i64 a0, .int .i64 a1, .int .i64 a2, .int .i64 a3, .int .i64 a4, .int .i64 a5] 23)) 27 #[.int .i64 0, .int .i64 0, .int .i64 0, .map none]
    rwa [show (w.alloc (.cells #[.int .i64 a0, .int .i64 a1, .int .i64 a2, .int .i64 a3, .int .i64 a4, .int .i64 a5] 23)).heap.size = w.heap.size + 1 by simp] at this
  case round =>
    obtain ⟨i, rfl, hi, hq, HM, HB, HF⟩ := hrel
    have HQ := hid hq
    clear hq
    rcases (show i = 0 ∨ i = 1 ∨ i = 2 by omega) with rfl | rfl | rfl
    · have N0 := hid (show NoTab wr (.pointer none) from .inl rfl)
      have k1 := HM.out.cell 1
      have k2 := HM.out.cell 2
      have k3 := HM.out.cell 3
      have k4 := HM.out.cell 4
      have k5 := HM.out.cell 5
      obtain ⟨hx0, hx1⟩ := index_two (.pointer none) (.pointer (some ⟨w.heap.size + 1, 0, none⟩)) wr
      go_wp2_with fail
      refine (grant_none N0.out _ _ _ _ _).mono ?_
      rintro e1 w1 ⟨rfl, F⟩
      have F1 := hid (F.alloc (.cells #[.int .i64 0, .int .i64 0, .int .i64 0, .int .i64 0, .int .i64 0] 30))
      have HX1 := hid (Blk.new w1 30 #[.int .i64 0, .int .i64 0, .int .i64 0, .int .i64 0, .int .i64 0])
      have HM1 := hid (HM.out.keep F1.out (not_no _))
      have HB1 := hid (HB.out.keep F1.out)
      have N1 := hid (N0.out.keep F1.out)
      have j1 := HM1.out.cell 1
      have j4 := HM1.out.cell 4
      have j5 := HM1.out.cell 5
      clear F k1 k2 k3 k4 k5 hx0 hx1
      unfold zeroL
      go_wp2_with fail
      refine (acked_none N1.out a1 a4).mono ?_
      rintro e1 w2 ⟨rfl, F⟩
      have F2 := hid F
      have HM2 := hid (HM1.out.keep F2.out (not_no _))
      have HB2 := hid (HB1.out.keep F2.out)
      have N2 := hid (N1.out.keep F2.out)
      have i4 := HM2.out.cell 4
      have i5 := HM2.out.cell 5
      clear F j1 j4 j5
      go_wp2_with fail
      refine (expire_none N2.out a5).mono ?_
      rintro e1 w3 ⟨rfl, F⟩
      have F3 := hid F
      have HM3 := hid (HM2.out.keep F3.out (not_no _))
      have HB3 := hid (HB2.out.keep F3.out)
      have N3 := hid (N2.out.keep F3.out)
      have l4 := HM3.out.cell 4
      have l5 := HM3.out.cell 5
      clear F i4 i5
      go_wp2_with fail
      refine (holders_none N3.out a4 a5).mono ?_
      rintro e1 wx ⟨rfl, rfl⟩
      go_wp2_with fail
      refine (all_none N3.out).mono ?_
      rintro e1 wx ⟨rfl, rfl⟩
      have HF4 := hid (((HF.out.fresh_no F1.out).fresh_no F2.out).fresh_no F3.out)
      go_wp2_with fail
      go_roundg (2 - (1))
      case measure => have := HQ.out; omega
      case rel => exact ⟨1, rfl, by omega, rfl, HM3, HB3, HF4⟩
    · have N0 := HB
      have k1 := HM.out.cell 1
      have k2 := HM.out.cell 2
      have k3 := HM.out.cell 3
      have k4 := HM.out.cell 4
      have k5 := HM.out.cell 5
      obtain ⟨hx0, hx1⟩ := index_two (.pointer none) (.pointer (some ⟨w.heap.size + 1, 0, none⟩)) wr
      go_wp2_with fail
      refine (grant_none N0.out _ _ _ _ _).mono ?_
      rintro e1 w1 ⟨rfl, F⟩
      have F1 := hid (F.alloc (.cells #[.int .i64 0, .int .i64 0, .int .i64 0, .int .i64 0, .int .i64 0] 30))
      have HX1 := hid (Blk.new w1 30 #[.int .i64 0, .int .i64 0, .int .i64 0, .int .i64 0, .int .i64 0])
      have HM1 := hid (HM.out.keep F1.out (not_no _))
      have HB1 := hid (HB.out.keep F1.out)
      have N1 := hid (N0.out.keep F1.out)
      have j1 := HM1.out.cell 1
      have j4 := HM1.out.cell 4
      have j5 := HM1.out.cell 5
      clear F k1 k2 k3 k4 k5 hx0 hx1
      unfold zeroL
      go_wp2_with fail
      refine (acked_none N1.out a1 a4).mono ?_
      rintro e1 w2 ⟨rfl, F⟩
      have F2 := hid F
      have HM2 := hid (HM1.out.keep F2.out (not_no _))
      have HB2 := hid (HB1.out.keep F2.out)
      have N2 := hid (N1.out.keep F2.out)
      have i4 := HM2.out.cell 4
      have i5 := HM2.out.cell 5
      clear F j1 j4 j5
      go_wp2_with fail
      refine (expire_none N2.out a5).mono ?_
      rintro e1 w3 ⟨rfl, F⟩
      have F3 := hid F
      have HM3 := hid (HM2.out.keep F3.out (not_no _))
      have HB3 := hid (HB2.out.keep F3.out)
      have N3 := hid (N2.out.keep F3.out)
      have l4 := HM3.out.cell 4
      have l5 := HM3.out.cell 5
      clear F i4 i5
      go_wp2_with fail
      refine (holders_none N3.out a4 a5).mono ?_
      rintro e1 wx ⟨rfl, rfl⟩
      go_wp2_with fail
      refine (all_none N3.out).mono ?_
      rintro e1 wx ⟨rfl, rfl⟩
      have HF4 := hid (((HF.out.fresh_no F1.out).fresh_no F2.out).fresh_no F3.out)
      go_wp2_with fail
      go_roundg (2 - (2))
      case measure => have := HQ.out; omega
      case rel => exact ⟨2, rfl, by omega, rfl, HM3, HB3, HF4⟩
    · go_wp2_with fail
      refine (awake_c _).mono ?_
      rintro e1 w7 ⟨rfl, f7⟩
      have HF7 := hid (HF.out.fresh_no f7)
      go_wp2_with fail
      go_ret
      exact ⟨rfl, HF7.out⟩
end Go.Proofs.Ythcebkbedfaoeaa
