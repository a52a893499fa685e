import Derived.Test.YtfbhcapcnkcfdaaRowKit
import Derived.Deep.Strs
/-! A script that came in. -/
namespace Go.Proofs.Ytfbhcapcnkcfdaa
open Go.RowKit Go.ChangeShapes Go.WideShapes
set_option linter.unusedVariables false
set_option linter.unusedSimpArgs false

/-- a call of a script: its kind, its number, its bytes (and where they stand) -/
structure OpV where
  kind : Int
  n : Int
  sv : Value
  b : List UInt8
def OpV.cells (o : OpV) : List Value := [.int .i64 o.kind, .int .i64 o.n, o.sv]
def OpV.ok (w : World) (o : OpV) : Prop := InB w o.sv o.b ∧ -9223372036854775808 ≤ o.kind ∧ o.kind ≤ 9223372036854775807 ∧ -9223372036854775808 ≤ o.n ∧ o.n ≤ 9223372036854775807
def RdO (w : World) (v : Value) (os : List OpV) : Prop := Rd 3 w v os.length (os.map OpV.cells).flatten ∧ ∀ o ∈ os, o.ok w

theorem flat3 (os : List OpV) : ∀ (k : Nat) (o : OpV), os[k]? = some o → (os.map OpV.cells).flatten[k * 3]? = some (.int .i64 o.kind) ∧ (os.map OpV.cells).flatten[k * 3 + 1]? = some (.int .i64 o.n) ∧ (os.map OpV.cells).flatten[k * 3 + 2]? = some o.sv := by
  induction os with
  | nil => intro k o h; simp at h
  | cons a os ih =>
    intro k o h
    cases k with
    | zero =>
      simp at h
      subst h
      exact ⟨rfl, rfl, rfl⟩
    | succ k =>
      have h' : os[k]? = some o := by simpa using h
      obtain ⟨h1, h2, h3⟩ := ih k o h'
      have e : (k + 1) * 3 = k * 3 + 3 := by omega
      rw [e]
      simp only [List.map_cons, List.flatten_cons, OpV.cells, List.cons_append, List.nil_append]
      refine ⟨?_, ?_, ?_⟩
      · simpa [OpV.cells] using h1
      · simpa [OpV.cells] using h2
      · simpa [OpV.cells] using h3

theorem RdO.at_ {w : World} {A : Option Addr} {os : List OpV} {c k : Nat} (h : RdO w (.slice A os.length c) os) (hk : k < os.length) :
    ∃ b off kind n A' c' ys, A = some ⟨b, off, none⟩ ∧ os[k]? = some ⟨kind, n, .slice A' ys.length c', ys⟩ ∧ w.cell? ⟨b, off + k * 3, none⟩ = some (.int .i64 kind) ∧ w.cell? ⟨b, off + k * 3 + 1, none⟩ = some (.int .i64 n) ∧
      w.cell? ⟨b, off + k * 3 + 2, none⟩ = some (.slice A' ys.length c') ∧ OpV.ok w ⟨kind, n, .slice A' ys.length c', ys⟩ := by
  have hz : os[k]? = some (os[k]'hk) := by simp [hk]
  have hok := h.2 _ (List.getElem_mem hk)
  generalize os[k]'hk = o at hz hok
  obtain ⟨kind, n, sv, ys⟩ := o
  obtain ⟨A', c', hs, _⟩ := hok.1.1.slice
  replace hs : sv = .slice A' ys.length c' := hs
  subst hs
  obtain ⟨A1, cap, hv, hle, hfl, hcell⟩ := h.1
  obtain ⟨b, off, ha, hlt, hcl⟩ := hcell (by omega)
  injection hv with hv
  subst hv
  obtain ⟨h1, h2, h3⟩ := flat3 os k _ hz
  exact ⟨b, off, kind, n, A', c', ys, ha, hz, hcl _ _ h1, by rw [Nat.add_assoc]; exact hcl _ _ h2, by rw [Nat.add_assoc]; exact hcl _ _ h3, hok⟩
theorem OpV.ok.keep {w w' : World} {o : OpV} (h : o.ok w) (hf : Fr No w w') : o.ok w' :=
  ⟨⟨h.1.1.keep hf (fun k _ => not_no k), fun h0 k hk => Nat.lt_of_lt_of_le (h.1.2 h0 k hk) hf.size⟩, h.2⟩
theorem RdO.keep {w w' : World} {v : Value} {os : List OpV} (h : RdO w v os) (hf : Fr No w w') : RdO w' v os := ⟨h.1.keep hf (fun k _ => not_no k), fun o ho => (h.2 o ho).keep hf⟩

section
variable {H : Type} {enc : TypeId × Value → H} {P : Program} {w : World} {base : Nat} {held : Bool}
theorem ops_of_trod {t e e' : TypeId} {f0 f1 f2 : Field} {fuel : Nat} {cs : List Value} {x : DataW H × List MemPlace} (ht : P.underlying t = some (.slice e)) (he : P.underlying e = some (.struct #[f0, f1, f2])) (hc : P.cellsOf e = 3)
    (hi0 : P.underlying f0.type = some (.int .i64)) (hi1 : P.underlying f1.type = some (.int .i64)) (hs : P.underlying f2.type = some (.slice e')) (hb : P.underlying e' = some (.int .u8)) (hb1 : P.cellsOf e' = 1)
    (c0 : P.cellsOf f0.type = 1 ∧ f0.offset = 0) (c1 : P.cellsOf f1.type = 1 ∧ f1.offset = 1) (c2 : P.cellsOf f2.type = 1 ∧ f2.offset = 2)
    (h : DataW.trod enc P w base (fun _ => true) held fuel t cs = some x) : ∃ (A : Option Addr) (c : Nat) (os : List OpV), cs = [.slice A os.length c] ∧ RdO w (.slice A os.length c) os := by
  obtain ⟨A, len, cap, rows, rfl, hl, hm, hrl, hr1, hrd, hof, hrt⟩ := open_any 3 (by omega) ht hc h
  obtain ⟨os, hos, hw⟩ := map_of_all OpV.cells (fun o => o.ok w) rows (fun r hr => by
    obtain ⟨j, hj⟩ := List.getElem?_of_mem hr
    obtain ⟨n, y, hy⟩ := hrt j r hj
    obtain ⟨y0, y1, y2, m, _, hlen, g0, g1, g2⟩ := Go.Deep.trod_struct3 he hy
    have h3 := hr1 r hr
    match r, h3 with
    | [u0, u1, u2], _ =>
      rw [c0.1, c0.2] at g0
      rw [c1.1, c1.2] at g1
      rw [c2.1, c2.2] at g2
      obtain ⟨z0, e0, b0, b0'⟩ := i64_of_trod hi0 g0
      obtain ⟨z1, e1, b1, b1'⟩ := i64_of_trod hi1 g1
      obtain ⟨A', c', ys, e2, hin⟩ := in_of_trod hs hb hb1 g2
      simp at e0 e1 e2
      subst e0 e1 e2
      exact ⟨⟨z0, z1, _, ys⟩, rfl, hin, b0, b0', b1, b1'⟩)
  subst hos
  have hlen : os.length = len := by simpa using hrl
  subst hlen
  exact ⟨A, cap, os, rfl, hrd, hw⟩
end
end Go.Proofs.Ytfbhcapcnkcfdaa
