import Derived.Test.YtjgcibjodiefkaaMem
import Derived.Test.YtjgcibjodiefkaaRowKit
import Derived.Deep.Strs
/-! Rows of structs of four numbers and bytes that came in. -/
namespace Go.Proofs.Ytjgcibjodiefkaa
open Go.RowKit Go.ChangeShapes Go.WideShapes
set_option linter.unusedVariables false
set_option linter.unusedSimpArgs false

/-- a call of a script: its kind, three numbers, its bytes (and where they stand) -/
structure OpE where
  kind : Int
  a : Int
  z : Int
  i : Int
  sv : Value
  b : List UInt8
def OpE.cells (o : OpE) : List Value := [.int .i64 o.kind, .int .i64 o.a, .int .i64 o.z, .int .i64 o.i, o.sv]
def Is64 (x : Int) : Prop := -9223372036854775808 ≤ x ∧ x ≤ 9223372036854775807
def OpE.ok (w : World) (o : OpE) : Prop := InB w o.sv o.b ∧ Is64 o.kind ∧ Is64 o.a ∧ Is64 o.z ∧ Is64 o.i
def RdE (w : World) (v : Value) (os : List OpE) : Prop := Rd 5 w v os.length (rows OpE.cells os) ∧ ∀ o ∈ os, o.ok w
theorem OpE.cells_length (o : OpE) : o.cells.length = 5 := rfl

theorem RdE.at_ {w : World} {A : Option Addr} {os : List OpE} {c k : Nat} (h : RdE w (.slice A os.length c) os) (hk : k < os.length) :
    ∃ b off kind a z i A' c' ys, A = some ⟨b, off, none⟩ ∧ os[k]? = some ⟨kind, a, z, i, .slice A' ys.length c', ys⟩ ∧ w.cell? ⟨b, off + k * 5, none⟩ = some (.int .i64 kind) ∧ w.cell? ⟨b, off + k * 5 + 1, none⟩ = some (.int .i64 a) ∧
      w.cell? ⟨b, off + k * 5 + 2, none⟩ = some (.int .i64 z) ∧ w.cell? ⟨b, off + k * 5 + 3, none⟩ = some (.int .i64 i) ∧ w.cell? ⟨b, off + k * 5 + 4, none⟩ = some (.slice A' ys.length c') ∧ OpE.ok w ⟨kind, a, z, i, .slice A' ys.length c', ys⟩ := by
  have hz : os[k]? = some (os[k]'hk) := by simp [hk]
  have hok := h.2 _ (List.getElem_mem hk)
  generalize os[k]'hk = o at hz hok
  obtain ⟨kind, a, z, i, sv, ys⟩ := o
  obtain ⟨A', c', hs, _⟩ := hok.1.1.slice
  replace hs : sv = .slice A' ys.length c' := hs
  subst hs
  obtain ⟨A1, cap, hv, hle, hfl, hcell⟩ := h.1
  obtain ⟨b, off, ha, hlt, hcl⟩ := hcell (by omega)
  injection hv with hv
  subst hv
  refine ⟨b, off, kind, a, z, i, A', c', ys, ha, hz, ?_, ?_, ?_, ?_, ?_, hok⟩
  · exact hcl _ _ (rows_get OpE.cells_length hz 0 (by omega))
  · rw [Nat.add_assoc]; exact hcl _ _ (rows_get OpE.cells_length hz 1 (by omega))
  · rw [Nat.add_assoc]; exact hcl _ _ (rows_get OpE.cells_length hz 2 (by omega))
  · rw [Nat.add_assoc]; exact hcl _ _ (rows_get OpE.cells_length hz 3 (by omega))
  · rw [Nat.add_assoc]; exact hcl _ _ (rows_get OpE.cells_length hz 4 (by omega))
theorem OpE.ok.keep {w w' : World} {o : OpE} (h : o.ok w) (hf : Fr No w w') : o.ok w' :=
  ⟨⟨h.1.1.keep hf (fun k _ => not_no k), fun h0 k hk => Nat.lt_of_lt_of_le (h.1.2 h0 k hk) hf.size⟩, h.2⟩
theorem RdE.keep {w w' : World} {v : Value} {os : List OpE} (h : RdE w v os) (hf : Fr No w w') : RdE w' v os := ⟨h.1.keep hf (fun k _ => not_no k), fun o ho => (h.2 o ho).keep hf⟩

section
variable {H : Type} {enc : TypeId × Value → H} {P : Program} {w : World} {base : Nat} {held : Bool}
theorem opsE_of_trod {t e e' : TypeId} {f0 f1 f2 f3 f4 : Field} {fuel : Nat} {cs : List Value} {x : DataW H × List MemPlace} (ht : P.underlying t = some (.slice e)) (he : P.underlying e = some (.struct #[f0, f1, f2, f3, f4])) (hc : P.cellsOf e = 5)
    (hi0 : P.underlying f0.type = some (.int .i64)) (hi1 : P.underlying f1.type = some (.int .i64)) (hi2 : P.underlying f2.type = some (.int .i64)) (hi3 : P.underlying f3.type = some (.int .i64)) (hs : P.underlying f4.type = some (.slice e')) (hb : P.underlying e' = some (.int .u8)) (hb1 : P.cellsOf e' = 1)
    (c0 : P.cellsOf f0.type = 1 ∧ f0.offset = 0) (c1 : P.cellsOf f1.type = 1 ∧ f1.offset = 1) (c2 : P.cellsOf f2.type = 1 ∧ f2.offset = 2) (c3 : P.cellsOf f3.type = 1 ∧ f3.offset = 3) (c4 : P.cellsOf f4.type = 1 ∧ f4.offset = 4)
    (h : DataW.trod enc P w base (fun _ => true) held fuel t cs = some x) : ∃ (A : Option Addr) (c : Nat) (os : List OpE), cs = [.slice A os.length c] ∧ RdE w (.slice A os.length c) os := by
  obtain ⟨A, len, cap, rs, rfl, hl, hm, hrl, hr1, hrd, hof, hrt⟩ := open_any 5 (by omega) ht hc h
  obtain ⟨os, hos, hw⟩ := map_of_all OpE.cells (fun o => o.ok w) rs (fun r hr => by
    obtain ⟨j, hj⟩ := List.getElem?_of_mem hr
    obtain ⟨n, y, hy⟩ := hrt j r hj
    obtain ⟨xs, m, _, rfl, hlc, hlen, hf⟩ := DataW.trod_struct he hy
    have h5 := hr1 r hr
    match xs, hlen with
    | [y0, y1, y2, y3, y4], _ =>
      have g0 := hf 0 f0 rfl
      have g1 := hf 1 f1 rfl
      have g2 := hf 2 f2 rfl
      have g3 := hf 3 f3 rfl
      have g4 := hf 4 f4 rfl
      rw [c0.1, c0.2] at g0
      rw [c1.1, c1.2] at g1
      rw [c2.1, c2.2] at g2
      rw [c3.1, c3.2] at g3
      rw [c4.1, c4.2] at g4
      match r, h5 with
      | [u0, u1, u2, u3, u4], _ =>
        obtain ⟨z0, e0, b0, b0'⟩ := i64_of_trod hi0 g0
        obtain ⟨z1, e1, b1, b1'⟩ := i64_of_trod hi1 g1
        obtain ⟨z2, e2, b2, b2'⟩ := i64_of_trod hi2 g2
        obtain ⟨z3, e3, b3, b3'⟩ := i64_of_trod hi3 g3
        obtain ⟨A', c', ys, e4, hin⟩ := in_of_trod hs hb hb1 g4
        simp at e0 e1 e2 e3 e4
        subst e0 e1 e2 e3 e4
        exact ⟨⟨z0, z1, z2, z3, _, ys⟩, rfl, hin, ⟨b0, b0'⟩, ⟨b1, b1'⟩, ⟨b2, b2'⟩, ⟨b3, b3'⟩⟩)
  subst hos
  have hlen : os.length = len := by simpa using hrl
  subst hlen
  exact ⟨A, cap, os, rfl, hrd, hw⟩
end
end Go.Proofs.Ytjgcibjodiefkaa
