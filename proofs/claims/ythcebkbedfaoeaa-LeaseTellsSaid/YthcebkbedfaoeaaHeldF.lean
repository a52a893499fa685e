import Derived.Test.YthcebkbedfaoeaaBase
import Derived.Deep.RegionHeld
/-! A region whose order is drawn: what the world is to meet is asked behind each operation but the last one (a store into a cell that the region itself has read). -/
namespace Go.Proofs.Ythcebkbedfaoeaa
open Go
set_option linter.unusedVariables false
set_option linter.unusedSimpArgs false

section
variable {P : Program} {ops : Array Oper} {Q : Exit → Act → World → Prop} {md : Region.Mode} {S : World → Prop}
def allIn (ops : Array Oper) (listed : Array Bool) : Bool := (List.range ops.size).all (fun k => listed.getD k true)
/-- somebody who has not come up yet waits for number i -/
def waitedFor (md : Region.Mode) (ops : Array Oper) (listed : Array Bool) (i : Nat) : Bool :=
  (List.range ops.size).any (fun k => k != i && !(listed.getD k true) && match ops[k]? with | some o => o.after.toList.any (fun e => Region.binds md e && e.on == i) | none => false)
theorem allIn_at {listed : Array Bool} (h : allIn ops listed = true) {k : Nat} (hk : k < ops.size) : listed.getD k true = true := by
  unfold allIn at h
  rw [List.all_eq_true] at h
  exact h k (List.mem_range.2 hk)
theorem waited_at {listed : Array Bool} {i : Nat} (h : waitedFor md ops listed i = true) : ∃ k o, k ≠ i ∧ listed.getD k true = false ∧ ops[k]? = some o ∧ ∃ e ∈ o.after, Region.binds md e = true ∧ e.on = i := by
  unfold waitedFor at h
  rw [List.any_eq_true] at h
  obtain ⟨k, _, hk⟩ := h
  cases ho : ops[k]? with
  | none => rw [ho] at hk; simp at hk
  | some o =>
    rw [ho] at hk
    simp only [Bool.and_eq_true, bne_iff_ne, Bool.not_eq_true', List.any_eq_true, beq_iff_eq] at hk
    obtain ⟨⟨h1, h2⟩, e, he, hb, hi⟩ := hk
    exact ⟨k, o, h1, h2, ho, e, by simpa using he, hb, hi⟩
def wpAnyF (P : Program) (md : Region.Mode) (ops : Array Oper) (Q : Exit → Act → World → Prop) (S : World → Prop) : Nat → Array Bool → Act → World → Prop
  | 0, listed, a, w => allIn ops listed = true ∧ Region.ready md ops listed = [] ∧ Q .normal a w
  | fuel + 1, listed, a, w =>
    (Region.ready md ops listed = [] → Q .normal a w) ∧
    ∀ i ∈ Region.ready md ops listed, wpOp P ops Q i (fun a' w' => (fuel ≠ 0 → S w') ∧ wpAnyF P md ops Q S fuel (listed.setIfInBounds i true) a' w') a w
theorem wpAny_of_F : ∀ (fuel : Nat) (listed : Array Bool) (a : Act) (w : World), wpAnyF P md ops Q S fuel listed a w → wpAny P md ops Q fuel listed a w
  | 0, _, _, _, h => h.2
  | fuel + 1, _, _, _, h => ⟨h.1, fun i hi => wpOp_mono (fun a' w' h' => wpAny_of_F fuel _ a' w' h'.2) (h.2 i hi)⟩
theorem wpAnyF_first {i k0 : Nat} {oi ok0 : Oper} {v : Value} (hi : ops[i]? = some oi) (hsel : ∀ (j : Nat) (o : Oper) cs b, ops[j]? = some o → o.op ≠ .select cs b)
    (hQ : ∀ c a w, Q (.panic c) (a.put oi.dst v) w → Q (.panic c) a w) (hk0 : ops[k0]? = some ok0) (hki : k0 ≠ i) (hke : ∃ e ∈ ok0.after, Region.binds md e = true ∧ e.on = i) :
    ∀ (fuel : Nat) (listed : Array Bool) (a : Act) (w : World),
      (∀ j oj, ops[j]? = some oj → j ≠ i → listed.getD j true = false → (∀ e ∈ oj.after, Region.binds md e = true → e.on ≠ i) → oi.apart ops oj = true) →
      i ∈ Region.ready md ops listed → listed.getD k0 true = false → YieldsIf P ops S oi v a → S w →
      wpAnyF P md ops Q S fuel (listed.setIfInBounds i true) (a.put oi.dst v) w → wpAnyF P md ops Q S (fuel + 1) listed a w := by
  have hk0s : k0 < ops.size := by
    rcases Nat.lt_or_ge k0 ops.size with h | h
    · exact h
    · rw [Array.getElem?_eq_none h] at hk0; cases hk0
  intro fuel
  induction fuel with
  | zero =>
    intro listed a w _ hr hkl hy hS H
    have h1 := allIn_at H.1 hk0s
    rw [getD_set_ne true (Ne.symm hki), hkl] at h1
    cases h1
  | succ fuel ih =>
    intro listed a w hfree hr hkl hy hS H
    refine ⟨fun h => (by rw [h] at hr; cases hr), fun j hj => ?_⟩
    by_cases hji : j = i
    · subst hji; exact hy.wpOp hi hS ⟨fun _ => hS, H⟩
    · have h1 := H.2 j (ready_mono hj hji)
      obtain ⟨hjun, oj, hoj, hall⟩ := mem_ready.1 hj
      have hnot : ∀ e ∈ oj.after, Region.binds md e = true → e.on ≠ i := fun e he hb heq => by
        have h1 := hall e he hb
        have h0 := (mem_ready.1 hr).1
        rw [heq] at h1
        rcases Nat.lt_or_ge i listed.size with h' | h'
        · simp [h'] at h0 h1; rw [h0] at h1; cases h1
        · simp [Array.getElem?_eq_none h'] at h1
      have hjk : j ≠ k0 := by
        rintro rfl
        rw [hk0] at hoj
        injection hoj with hoj
        subst hoj
        obtain ⟨e, he, hb, heq⟩ := hke
        exact hnot e he hb heq
      have h2 := wpOp_putIf hoj (hfree j oj hoj hji hjun hnot) (fun cs b => hsel i oi cs b hi) (fun cs b => hsel j oj cs b hoj) hQ hy h1
      have hfree' : ∀ k ok, ops[k]? = some ok → k ≠ i → (listed.setIfInBounds j true).getD k true = false →
          (∀ e ∈ ok.after, Region.binds md e = true → e.on ≠ i) → oi.apart ops ok = true := fun k ok hk hki hun hno => by
        refine hfree k ok hk hki ?_ hno
        by_cases hjk : j = k
        · subst hjk; exact hjun
        · rw [getD_set_ne true hjk] at hun; exact hun
      refine wpOp_mono (fun a' w' h3 => ?_) h2
      have hS' : S w' := by
        rcases Nat.eq_zero_or_pos fuel with h0 | h0
        · subst h0
          have h4 := allIn_at h3.2.2.1 hk0s
          rw [getD_set_ne true hjk, getD_set_ne true (Ne.symm hki), hkl] at h4
          cases h4
        · exact h3.2.1 (by omega)
      refine ⟨fun _ => hS', ih (listed.setIfInBounds j true) a' w' hfree' (ready_mono hr (Ne.symm hji)) (by rw [getD_set_ne true hjk]; exact hkl) h3.1 hS' ?_⟩
      rw [Array.setIfInBounds_comm _ _ hji]
      exact h3.2.2
theorem wpAnyF_take {i : Nat} {oi : Oper} {v : Value} {fuel : Nat} {listed : Array Bool} {a : Act} {w : World} (hi : ops[i]? = some oi)
    (hs : Region.noSelect ops = true) (hf : Region.free md ops listed i = true) (hr : (Region.ready md ops listed).contains i = true) (hw : waitedFor md ops listed i = true)
    (hQ : ∀ c a w, Q (.panic c) (a.put oi.dst v) w → Q (.panic c) a w) (hy : YieldsIf P ops S oi v a) (hS : S w)
    (h : wpAnyF P md ops Q S fuel (listed.setIfInBounds i true) (a.put oi.dst v) w) : wpAnyF P md ops Q S (fuel + 1) listed a w := by
  obtain ⟨k0, ok0, hki, hkl, hk0, hke⟩ := waited_at hw
  exact wpAnyF_first hi (Region.noSelect_spec hs) hQ hk0 hki hke fuel listed a w (Region.free_spec hi hf) (by simpa using hr) hkl hy hS h
def AllReadyF (P : Program) (md : Region.Mode) (ops : Array Oper) (Q : Exit → Act → World → Prop) (S : World → Prop) (fuel : Nat) (listed : Array Bool) (a : Act) (w : World) (rs : List Nat) : Prop :=
  ∀ i ∈ rs, wpOp P ops Q i (fun a' w' => (fuel ≠ 0 → S w') ∧ wpAnyF P md ops Q S fuel (listed.setIfInBounds i true) a' w') a w
theorem AllReadyF.nil {fuel : Nat} {listed : Array Bool} {a : Act} {w : World} : AllReadyF P md ops Q S fuel listed a w [] := fun _ h => by cases h
theorem AllReadyF.cons {fuel : Nat} {listed : Array Bool} {a : Act} {w : World} {i : Nat} {o : Oper} {rs : List Nat} (ho : ops[i]? = some o)
    (h : ∀ K' : Act → World → Prop, Shut (∀ a w, S w → (S w → wpAnyF P md ops Q S fuel (listed.setIfInBounds i true) a w) → K' a w) → if Region.wanted o (yielded ops a.tmps) = true then Oper.wp P o a w K' Q else K' (a.put o.dst undef) w)
    (hs : AllReadyF P md ops Q S fuel listed a w rs) : AllReadyF P md ops Q S fuel listed a w (i :: rs) := fun j hj => by
  rcases List.mem_cons.1 hj with rfl | hj
  · exact wpOp_step ho (fun K' hK => h K' (fun a w hS hW => hK a w ⟨fun _ => hS, hW hS⟩))
  · exact hs j hj
theorem wpAnyF_ready {rs : List Nat} {fuel : Nat} {listed : Array Bool} {a : Act} {w : World} (hr : Region.ready md ops listed = rs) (hne : rs ≠ [])
    (h : AllReadyF P md ops Q S fuel listed a w rs) : wpAnyF P md ops Q S (fuel + 1) listed a w := ⟨fun h0 => absurd (hr ▸ h0) hne, hr ▸ h⟩
/-- the last one: nothing is asked behind it -/
theorem wpAnyF_last {listed : Array Bool} {a : Act} {w : World} {i : Nat} {o : Oper} (hr : Region.ready md ops listed = [i]) (ho : ops[i]? = some o) (hall : allIn ops (listed.setIfInBounds i true) = true) (hend : Region.ready md ops (listed.setIfInBounds i true) = [])
    (h : ∀ K' : Act → World → Prop, Shut (∀ a w, Q .normal a w → K' a w) → if Region.wanted o (yielded ops a.tmps) = true then Oper.wp P o a w K' Q else K' (a.put o.dst undef) w) : wpAnyF P md ops Q S 1 listed a w := by
  refine ⟨fun h0 => (by rw [hr] at h0; cases h0), fun j hj => ?_⟩
  rw [hr] at hj
  obtain rfl := List.mem_singleton.1 hj
  exact wpOp_step ho (fun K' hK => h K' (fun a w hQ => hK a w ⟨fun h => absurd rfl h, hall, hend, hQ⟩))
theorem wp_region_F {id : Nat} {a : Act} {w : World} (hm : P.follows .mixedOrders = true) (hS : S w.drew)
    (h : S w.drew → wpAnyF P .any ops Q S ops.size (Array.replicate ops.size false) a w.drew) : (Code.region id ops true).wp P Q a w :=
  wp_region_any hm (wpAny_of_F _ _ _ _ (h hS))
end
end Go.Proofs.Ythcebkbedfaoeaa
