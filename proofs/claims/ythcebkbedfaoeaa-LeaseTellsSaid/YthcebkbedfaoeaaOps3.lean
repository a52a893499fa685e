import Derived.Test.YthcebkbedfaoeaaOpsL
/-! Rows of three bytes that came in ([][3]uint8). -/
namespace Go.Proofs.Ythcebkbedfaoeaa
open Go.RowKit Go.ChangeShapes Go.WideShapes
set_option linter.unusedVariables false
set_option linter.unusedSimpArgs false

structure T3 where
  a : Nat
  b : Nat
  c : Nat
def T3.cells (t : T3) : List Value := [.int .u8 t.a, .int .u8 t.b, .int .u8 t.c]
def T3.ok (t : T3) : Prop := t.a ≤ 255 ∧ t.b ≤ 255 ∧ t.c ≤ 255
theorem T3.cells_length (t : T3) : t.cells.length = 3 := rfl
def RdT (w : World) (v : Value) (ts : List T3) : Prop := Rd 3 w v ts.length (rows T3.cells ts) ∧ ∀ t ∈ ts, t.ok
theorem RdT.keep {w w' : World} {v : Value} {ts : List T3} (h : RdT w v ts) (hf : Fr No w w') : RdT w' v ts := ⟨h.1.keep hf (fun k _ => not_no k), h.2⟩
theorem RdT.at_ {w : World} {A : Option Addr} {ts : List T3} {c k : Nat} (h : RdT w (.slice A ts.length c) ts) (hk : k < ts.length) :
    ∃ b off x y z, A = some ⟨b, off, none⟩ ∧ ts[k]? = some ⟨x, y, z⟩ ∧ w.cell? ⟨b, off + k * 3, none⟩ = some (.int .u8 x) ∧ w.cell? ⟨b, off + k * 3 + 1, none⟩ = some (.int .u8 y) ∧ w.cell? ⟨b, off + k * 3 + 2, none⟩ = some (.int .u8 z) ∧ T3.ok ⟨x, y, z⟩ ∧ b < w.heap.size := by
  have hz : ts[k]? = some (ts[k]'hk) := by simp [hk]
  have hok := h.2 _ (List.getElem_mem hk)
  generalize ts[k]'hk = o at hz hok
  obtain ⟨x, y, z⟩ := o
  obtain ⟨A1, cap, hv, hle, hfl, hcell⟩ := h.1
  obtain ⟨b, off, ha, hlt, hcl⟩ := hcell (by omega)
  injection hv with hv
  subst hv
  refine ⟨b, off, x, y, z, ha, hz, ?_, ?_, ?_, hok, hlt⟩
  · exact hcl _ _ (rows_get T3.cells_length hz 0 (by omega))
  · rw [Nat.add_assoc]; exact hcl _ _ (rows_get T3.cells_length hz 1 (by omega))
  · rw [Nat.add_assoc]; exact hcl _ _ (rows_get T3.cells_length hz 2 (by omega))
section
variable {H : Type} {enc : TypeId × Value → H} {P : Program} {w : World} {base : Nat} {held : Bool}
theorem u8n_of_trod {e : TypeId} (he : P.underlying e = some (.int .u8)) {n : Nat} {r : List Value} {y : DataW H × List MemPlace} {spare : Nat → Bool} (h : DataW.trod enc P w base spare held n e r = some y) : ∃ z : Nat, r = [.int .u8 z] ∧ z ≤ 255 := by
  obtain ⟨k, hk, _, wk⟩ := DataW.trod_int he h
  have h4 : 0 ≤ k ∧ k ≤ 255 := by simpa [Lit.wf, IntKind.min, IntKind.max, IntKind.signed, IntKind.bits] using wk
  obtain ⟨m, rfl⟩ := Int.eq_ofNat_of_zero_le h4.1
  exact ⟨m, hk, by omega⟩
theorem ops3_of_trod {t e e' : TypeId} {fuel : Nat} {cs : List Value} {x : DataW H × List MemPlace} (ht : P.underlying t = some (.slice e)) (he : P.underlying e = some (.array 3 e')) (he' : P.underlying e' = some (.int .u8)) (hc : P.cellsOf e = 3) (hc' : P.cellsOf e' = 1)
    (h : DataW.trod enc P w base (fun _ => true) held fuel t cs = some x) : ∃ (A : Option Addr) (c : Nat) (ts : List T3), cs = [.slice A ts.length c] ∧ RdT w (.slice A ts.length c) ts := by
  obtain ⟨A, len, cap, rs, rfl, hl, hm, hrl, hr1, hrd, hof, hrt⟩ := open_any 3 (by omega) ht hc h
  obtain ⟨ts, hts, hw⟩ := map_of_all T3.cells (fun o => o.ok) rs (fun r hr => by
    obtain ⟨j, hj⟩ := List.getElem?_of_mem hr
    obtain ⟨n, y, hy⟩ := hrt j r hj
    obtain ⟨xs, m, _, _, hlc, hlen, hf⟩ := DataW.trod_array he hy
    have h3 := hr1 r hr
    match r, h3 with
    | [u0, u1, u2], _ =>
      have one : ∀ i (hi : i < 3) (v : Value), ([u0, u1, u2].drop i).take 1 = [v] → ∃ z : Nat, v = .int .u8 z ∧ z ≤ 255 := fun i hi v hd => by
        have g := hf i hi
        rw [hc', Nat.mul_one, List.getElem?_eq_getElem (by omega), hd] at g
        obtain ⟨z, hz, hz2⟩ := u8n_of_trod he' g
        exact ⟨z, by simpa using hz, hz2⟩
      obtain ⟨z0, rfl, b0⟩ := one 0 (by omega) u0 rfl
      obtain ⟨z1, rfl, b1⟩ := one 1 (by omega) u1 rfl
      obtain ⟨z2, rfl, b2⟩ := one 2 (by omega) u2 rfl
      exact ⟨⟨z0, z1, z2⟩, rfl, b0, b1, b2⟩)
  subst hts
  have hlen : ts.length = len := by simpa using hrl
  subst hlen
  exact ⟨A, cap, ts, rfl, hrd, hw⟩
end
end Go.Proofs.Ythcebkbedfaoeaa
