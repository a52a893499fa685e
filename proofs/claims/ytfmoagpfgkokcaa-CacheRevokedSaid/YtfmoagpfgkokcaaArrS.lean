import Derived.Test.YtfmoagpfgkokcaaRowKitS
import Derived.Deep.Strs
/-! Arrays of numbers that came in by value. -/
namespace Go.Proofs.Ytfmoagpfgkokcaa
open Go.RowKit Go.ChangeShapes Go.WideShapes
set_option linter.unusedVariables false
set_option linter.unusedSimpArgs false

section
variable {H : Type} {enc : TypeId × Value → H} {P : Program} {w : World} {base : Nat} {held : Bool}
theorem all_ints {k : IntKind} {ok : Int → Prop} : ∀ (l : List Value), (∀ v ∈ l, ∃ z, v = .int k z ∧ ok z) → ∃ zs : List Int, l = zs.map (Value.int k) ∧ ∀ z ∈ zs, ok z
  | [], _ => ⟨[], rfl, by simp⟩
  | v :: l, h => by
    obtain ⟨z, rfl, hz⟩ := h v (by simp)
    obtain ⟨zs, rfl, hzs⟩ := all_ints l (fun v hv => h v (by simp [hv]))
    exact ⟨z :: zs, rfl, by intro y hy; rcases List.mem_cons.1 hy with rfl | hy; exact hz; exact hzs y hy⟩
/-- an array of numbers that came in by value -/
theorem arr_of {t e : TypeId} {n : Nat} {k : IntKind} {r : Reach} {b0 : Nat} {v : Value} {d : DataW H} {p : List MemPlace} {spare : Nat → Bool} (ht : P.underlying t = some (.array n e)) (he : P.underlying e = some (.int k)) (hc : P.cellsOf e = 1) (hct : P.cellsOf t = n)
    (ho : Value.okWide P w r b0 t v) (h : DataW.Trod enc P w base spare held t v d p) : ∃ zs : List Int, v = .agg (zs.map (Value.int k)).toArray ∧ zs.length = n ∧ ∀ z ∈ zs, (Lit.int k z).wf = true := by
  simp only [Value.okWide, ht] at ho
  obtain ⟨cs, rfl, hsz, _⟩ := ho
  obtain ⟨l⟩ := cs
  rw [hct] at hsz
  obtain ⟨fuel, hf⟩ := h
  obtain ⟨xs, m, _, _, _, hlen, hg⟩ := DataW.trod_array ht hf
  have hl : l.length = n := by simpa using hsz
  obtain ⟨zs, rfl, hzs⟩ := all_ints (k := k) (ok := fun z => (Lit.int k z).wf = true) l (fun v hv => by
    obtain ⟨i, hi⟩ := List.getElem?_of_mem hv
    have hin : i < n := by
      rw [← hl]
      rcases Nat.lt_or_ge i l.length with h | h
      · exact h
      · rw [List.getElem?_eq_none h] at hi; cases hi
    have h3 := hg i hin
    rw [hc, Nat.mul_one, List.getElem?_eq_getElem (by omega)] at h3
    obtain ⟨z, hz, _, hw⟩ := DataW.trod_int he h3
    have e1 : (Value.cells (.agg ⟨l⟩)).toList = l := rfl
    rw [e1] at hz
    have e2 : (l.drop i).take 1 = [v] := by
      have hlt : i < l.length := by omega
      rw [List.getElem?_eq_getElem hlt] at hi
      rw [List.drop_eq_getElem_cons hlt, Option.some.inj hi]
      rfl
    rw [e2] at hz
    exact ⟨z, by injection hz, hw⟩)
  exact ⟨zs, rfl, by simpa using hl, hzs⟩
end
end Go.Proofs.Ytfmoagpfgkokcaa
