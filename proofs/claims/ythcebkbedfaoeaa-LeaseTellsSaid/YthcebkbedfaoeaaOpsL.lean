import Derived.Test.YthcebkbedfaoeaaMem
import Derived.Test.YthcebkbedfaoeaaRowKit
import Derived.Deep.Strs
/-! Rows of structs of six numbers that came in; arrays of numbers. -/
namespace Go.Proofs.Ythcebkbedfaoeaa
open Go.RowKit Go.ChangeShapes Go.WideShapes
set_option linter.unusedVariables false
set_option linter.unusedSimpArgs false

structure Op6 where
  d : Int
  n : Int
  v : Int
  f : Int
  e : Int
  t : Int
def Op6.cells (o : Op6) : List Value := [.int .i64 o.d, .int .i64 o.n, .int .i64 o.v, .int .i64 o.f, .int .i64 o.e, .int .i64 o.t]
def Is64 (x : Int) : Prop := -9223372036854775808 ≤ x ∧ x ≤ 9223372036854775807
def Op6.ok (o : Op6) : Prop := Is64 o.d ∧ Is64 o.n ∧ Is64 o.v ∧ Is64 o.f ∧ Is64 o.e ∧ Is64 o.t
def RdP (w : World) (v : Value) (os : List Op6) : Prop := Rd 6 w v os.length (rows Op6.cells os) ∧ ∀ o ∈ os, o.ok
theorem Op6.cells_length (o : Op6) : o.cells.length = 6 := rfl
theorem RdP.at_ {w : World} {A : Option Addr} {os : List Op6} {c k : Nat} (h : RdP w (.slice A os.length c) os) (hk : k < os.length) :
    ∃ b off d n v f e t, A = some ⟨b, off, none⟩ ∧ os[k]? = some ⟨d, n, v, f, e, t⟩ ∧ w.cell? ⟨b, off + k * 6, none⟩ = some (.int .i64 d) ∧ w.cell? ⟨b, off + k * 6 + 1, none⟩ = some (.int .i64 n) ∧
      w.cell? ⟨b, off + k * 6 + 2, none⟩ = some (.int .i64 v) ∧ w.cell? ⟨b, off + k * 6 + 3, none⟩ = some (.int .i64 f) ∧ w.cell? ⟨b, off + k * 6 + 4, none⟩ = some (.int .i64 e) ∧ w.cell? ⟨b, off + k * 6 + 5, none⟩ = some (.int .i64 t) ∧ Op6.ok ⟨d, n, v, f, e, t⟩ := by
  have hz : os[k]? = some (os[k]'hk) := by simp [hk]
  have hok := h.2 _ (List.getElem_mem hk)
  generalize os[k]'hk = o at hz hok
  obtain ⟨d, n, v, f, e, t⟩ := o
  obtain ⟨A1, cap, hv, hle, hfl, hcell⟩ := h.1
  obtain ⟨b, off, ha, hlt, hcl⟩ := hcell (by omega)
  injection hv with hv
  subst hv
  refine ⟨b, off, d, n, v, f, e, t, ha, hz, ?_, ?_, ?_, ?_, ?_, ?_, hok⟩
  · exact hcl _ _ (rows_get Op6.cells_length hz 0 (by omega))
  · rw [Nat.add_assoc]; exact hcl _ _ (rows_get Op6.cells_length hz 1 (by omega))
  · rw [Nat.add_assoc]; exact hcl _ _ (rows_get Op6.cells_length hz 2 (by omega))
  · rw [Nat.add_assoc]; exact hcl _ _ (rows_get Op6.cells_length hz 3 (by omega))
  · rw [Nat.add_assoc]; exact hcl _ _ (rows_get Op6.cells_length hz 4 (by omega))
  · rw [Nat.add_assoc]; exact hcl _ _ (rows_get Op6.cells_length hz 5 (by omega))
theorem RdP.keep {w w' : World} {v : Value} {os : List Op6} (h : RdP w v os) (hf : Fr No w w') : RdP w' v os := ⟨h.1.keep hf (fun k _ => not_no k), h.2⟩
section
variable {H : Type} {enc : TypeId × Value → H} {P : Program} {w : World} {base : Nat} {held : Bool}
theorem opsP_of_trod {t e : TypeId} {f0 f1 f2 f3 f4 f5 : Field} {fuel : Nat} {cs : List Value} {x : DataW H × List MemPlace} (ht : P.underlying t = some (.slice e)) (he : P.underlying e = some (.struct #[f0, f1, f2, f3, f4, f5])) (hc : P.cellsOf e = 6)
    (hi : ∀ g ∈ [f0, f1, f2, f3, f4, f5], P.underlying g.type = some (.int .i64) ∧ P.cellsOf g.type = 1) (ho : f0.offset = 0 ∧ f1.offset = 1 ∧ f2.offset = 2 ∧ f3.offset = 3 ∧ f4.offset = 4 ∧ f5.offset = 5)
    (h : DataW.trod enc P w base (fun _ => true) held fuel t cs = some x) : ∃ (A : Option Addr) (c : Nat) (os : List Op6), cs = [.slice A os.length c] ∧ RdP w (.slice A os.length c) os := by
  obtain ⟨A, len, cap, rs, rfl, hl, hm, hrl, hr1, hrd, hof, hrt⟩ := open_any 6 (by omega) ht hc h
  obtain ⟨os, hos, hw⟩ := map_of_all Op6.cells (fun o => o.ok) rs (fun r hr => by
    obtain ⟨j, hj⟩ := List.getElem?_of_mem hr
    obtain ⟨n, y, hy⟩ := hrt j r hj
    obtain ⟨xs, m, _, rfl, hlc, hlen, hf⟩ := DataW.trod_struct he hy
    have h5 := hr1 r hr
    match xs, hlen with
    | [y0, y1, y2, y3, y4, y5], _ =>
      have g0 := hf 0 f0 rfl
      have g1 := hf 1 f1 rfl
      have g2 := hf 2 f2 rfl
      have g3 := hf 3 f3 rfl
      have g4 := hf 4 f4 rfl
      have g5 := hf 5 f5 rfl
      rw [(hi f0 (by simp)).2, ho.1] at g0
      rw [(hi f1 (by simp)).2, ho.2.1] at g1
      rw [(hi f2 (by simp)).2, ho.2.2.1] at g2
      rw [(hi f3 (by simp)).2, ho.2.2.2.1] at g3
      rw [(hi f4 (by simp)).2, ho.2.2.2.2.1] at g4
      rw [(hi f5 (by simp)).2, ho.2.2.2.2.2] at g5
      match r, h5 with
      | [u0, u1, u2, u3, u4, u5], _ =>
        obtain ⟨z0, e0, b0⟩ := i64_of_trod (hi f0 (by simp)).1 g0
        obtain ⟨z1, e1, b1⟩ := i64_of_trod (hi f1 (by simp)).1 g1
        obtain ⟨z2, e2, b2⟩ := i64_of_trod (hi f2 (by simp)).1 g2
        obtain ⟨z3, e3, b3⟩ := i64_of_trod (hi f3 (by simp)).1 g3
        obtain ⟨z4, e4, b4⟩ := i64_of_trod (hi f4 (by simp)).1 g4
        obtain ⟨z5, e5, b5⟩ := i64_of_trod (hi f5 (by simp)).1 g5
        simp at e0 e1 e2 e3 e4 e5
        subst e0 e1 e2 e3 e4 e5
        exact ⟨⟨z0, z1, z2, z3, z4, z5⟩, rfl, b0, b1, b2, b3, b4, b5⟩)
  subst hos
  have hlen : os.length = len := by simpa using hrl
  subst hlen
  exact ⟨A, cap, os, rfl, hrd, hw⟩
theorem all_ints {k : IntKind} {ok : Int → Prop} : ∀ (l : List Value), (∀ v ∈ l, ∃ z, v = .int k z ∧ ok z) → ∃ zs : List Int, l = zs.map (Value.int k) ∧ ∀ z ∈ zs, ok z
  | [], _ => ⟨[], rfl, by simp⟩
  | v :: l, h => by
    obtain ⟨z, rfl, hz⟩ := h v (by simp)
    obtain ⟨zs, rfl, hzs⟩ := all_ints l (fun v hv => h v (by simp [hv]))
    exact ⟨z :: zs, rfl, by intro y hy; rcases List.mem_cons.1 hy with rfl | hy; exact hz; exact hzs y hy⟩
/-- an array of numbers that came in by value -/
theorem arr_of {t e : TypeId} {n : Nat} {k : IntKind} {r : Reach} {b0 : Nat} {v : Value} {d : DataW H} {p : List MemPlace} {spare : Nat → Bool} (ht : P.underlying t = some (.array n e)) (he : P.underlying e = some (.int k)) (hc : P.cellsOf e = 1) (hct : P.cellsOf t = n)
    (ho : Value.okWide P w r b0 t v) (h : DataW.Trod enc P w base spare held t v d p) : ∃ zs : List Int, v = .agg (zs.map (Value.int k)).toArray ∧ zs.length = n ∧ ∀ z ∈ zs, (Lit.int k z).wf = true := by
  simp only [Value.okWide, ht] at ho
  obtain ⟨cs, rfl, hsz, _⟩ := ho
  obtain ⟨l⟩ := cs
  rw [hct] at hsz
  obtain ⟨fuel, hf⟩ := h
  obtain ⟨xs, m, _, _, _, hlen, hg⟩ := DataW.trod_array ht hf
  have hl : l.length = n := by simpa using hsz
  obtain ⟨zs, rfl, hzs⟩ := all_ints (k := k) (ok := fun z => (Lit.int k z).wf = true) l (fun v hv => by
    obtain ⟨i, hi⟩ := List.getElem?_of_mem hv
    have hin : i < n := by
      rw [← hl]
      rcases Nat.lt_or_ge i l.length with h | h
      · exact h
      · rw [List.getElem?_eq_none h] at hi; cases hi
    have h3 := hg i hin
    rw [hc, Nat.mul_one, List.getElem?_eq_getElem (by omega)] at h3
    obtain ⟨z, hz, _, hw⟩ := DataW.trod_int he h3
    have e1 : (Value.cells (.agg ⟨l⟩)).toList = l := rfl
    rw [e1] at hz
    have e2 : (l.drop i).take 1 = [v] := by
      have hlt : i < l.length := by omega
      rw [List.getElem?_eq_getElem hlt] at hi
      rw [List.drop_eq_getElem_cons hlt, Option.some.inj hi]
      rfl
    rw [e2] at hz
    exact ⟨z, by injection hz, hw⟩)
  exact ⟨zs, rfl, by simpa using hl, hzs⟩
end
end Go.Proofs.Ythcebkbedfaoeaa
