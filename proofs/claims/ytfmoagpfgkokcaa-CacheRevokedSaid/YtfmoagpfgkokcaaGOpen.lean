import Derived.Test.YtfmoagpfgkokcaaGB
import Derived.Test.YtfmoagpfgkokcaaRowKitS
import Derived.SizedLaws
/-! Ops that came in: entries with code, exits, needs; no slice takes more than the form's own reach. -/
namespace Go.Proofs.Ytfmoagpfgkokcaa
open Go.RowKit Go.ChangeShapes Go.WideShapes
set_option linter.unusedVariables false
set_option linter.unusedSimpArgs false

section
variable {H : Type} {enc : TypeId × Value → H} {P : Program} {w : World} {base : Nat} {held : Bool}
def Fits (P : Program) (t : TypeId) (d : DataW H) : Prop := ∀ n ∈ d.weights P t, n ≤ reachBytes
theorem weights_all {e : TypeId} : ∀ {l : List (DataW H)} {d : DataW H}, d ∈ l → ∀ n ∈ d.weights P e, n ∈ DataW.weightsAll P e l
  | a :: l, d, hd, n, hn => by
    simp only [DataW.weightsAll, List.mem_append]
    rcases List.mem_cons.1 hd with rfl | hd
    · exact .inl hn
    · exact .inr (weights_all hd n hn)
theorem Fits.field {t : TypeId} {fs : Array Field} (ht : P.underlying t = some (.struct fs)) {xs : List (DataW H × List MemPlace)} (h : Fits P t (.agg (xs.map (·.1)))) {i : Nat} {f : Field} {x : DataW H × List MemPlace} (hf : fs[i]? = some f) (hx : xs[i]? = some x) : Fits P f.type x.1 := by
  intro n hn
  refine h n ?_
  simp only [DataW.weights, ht]
  exact DataW.weights_mem_each (j := i) (t := f.type) (d := x.1) (by rw [List.getElem?_map]; simp [hf]) (by rw [List.getElem?_map, hx]; rfl) n hn
theorem open_anyF {t e : TypeId} {fuel : Nat} {cs : List Value} {x : DataW H × List MemPlace} (size : Nat) (h0 : 0 < size) (ht : P.underlying t = some (.slice e)) (hsz : P.cellsOf e = size)
    (h : DataW.trod enc P w base (fun _ => true) held fuel t cs = some x) (hfit : Fits P t x.1) :
    ∃ (A : Option Addr) (len cap : Nat) (rows : List (List Value)), cs = [.slice A len cap] ∧ len ≤ cap ∧ rows.length = len ∧ (∀ r ∈ rows, r.length = size) ∧ Rd size w (.slice A len cap) len rows.flatten ∧ len * P.bytesOf e ≤ reachBytes ∧
      ∀ (i : Nat) (r : List Value), rows[i]? = some r → ∃ n y, DataW.trod enc P w base (fun _ => true) held n e r = some y ∧ Fits P e y.1 := by
  rcases Go.Deep.open_slice ht h with ⟨rfl, _⟩ | ⟨a, len, cap, m, n, D, Pl, rfl, hb, hl, hm, hmm, hxx, hx⟩
  · exact ⟨none, 0, 0, [], rfl, Nat.le_refl _, rfl, by simp, Rd.nil _ _, by simp, by simp⟩
  · have hmc : m = cap := by simpa using hmm
    subst hmc
    subst hxx
    have hw : ∀ n ∈ (DataW.slice ((List.range len).map D) ((List.range (m - len)).map fun j => D (len + j))).weights P t, n ≤ reachBytes := hfit
    simp only [DataW.weights, ht, List.mem_cons, List.mem_append] at hw
    have hbytes : len * P.bytesOf e ≤ reachBytes := by
      have := hw _ (.inl rfl)
      refine Nat.le_trans (Nat.mul_le_mul_right _ ?_) this
      simp
    have hD : ∀ i, i < len → Fits P e (D i) := fun i hi n hn => hw n (.inr (.inl (weights_all (List.mem_map.2 ⟨i, List.mem_range.2 hi, rfl⟩) n hn)))
    clear hw hfit
    rw [hsz] at hx
    obtain ⟨R, hR⟩ := Go.Deep.choose_lt hx
    have hlen : ∀ i, i < m → (R i).length = size := fun i hi => (World.cells?_some (hR i hi).1).2.1
    have hrl : ∀ r ∈ (List.range len).map R, r.length = size := by
      intro r hr
      obtain ⟨i, hi, rfl⟩ := List.mem_map.1 hr
      exact hlen i (by have := List.mem_range.1 hi; omega)
    have hfl : ((List.range len).map R).flatten.length = len * size := by
      rw [List.length_flatten, List.map_map]
      have : ((List.range len).map (List.length ∘ R)) = (List.range len).map (fun _ => size) := List.map_congr_left (fun i hi => hlen i (by have := List.mem_range.1 hi; omega))
      rw [this]
      exact sum_const size len
    have cell : ∀ i j u, i < len → (R i)[j]? = some u → j < size → w.cell? ((a.add (i * size)).add j) = some u := by
      intro i j u hi hu hj
      rw [(World.cells?_some (hR i (by omega)).1).2.2 j hj]
      exact hu
    refine ⟨some a, len, m, (List.range len).map R, rfl, hl, by simp, hrl, ⟨some a, m, rfl, hl, hfl, fun hn => ?_⟩, hbytes, ?_⟩
    · have hc0 := cell 0 0 ((R 0)[0]'(by rw [hlen 0 (by omega)]; exact h0)) hn (by simp) h0
      obtain ⟨b, off, spot⟩ := a
      have hspot : spot = none := by
        have := World.cell?_spot hc0
        simpa [Addr.add] using this
      subst hspot
      refine ⟨b, off, rfl, ?_, fun j u hu => ?_⟩
      · have := World.block_lt_of_cell? w _ hc0
        simpa [add_off] using this
      · obtain ⟨r, h1, h2⟩ := flatten_get size h0 _ hrl j u hu
        have hi : j / size < len := by
          rcases Nat.lt_or_ge (j / size) len with h | h
          · exact h
          · rw [List.getElem?_eq_none (by simpa using h)] at h1; cases h1
        have h3 : r = R (j / size) := by simpa [hi] using h1.symm
        subst h3
        have := cell (j / size) (j % size) u hi h2 (Nat.mod_lt _ h0)
        rw [add_off, add_off] at this
        rw [show off + j = off + j / size * size + j % size by rw [Nat.add_assoc, Nat.mul_comm, Nat.div_add_mod]]
        exact this
    · intro i r hir
      have hi : i < len := by
        rcases Nat.lt_or_ge i len with h | h
        · exact h
        · rw [List.getElem?_eq_none (by simpa using h)] at hir; cases hir
      have h3 : r = R i := by simpa [hi] using hir.symm
      subst h3
      exact ⟨n, _, (hR i (by omega)).2, hD i hi⟩
/-- rows of structs, each opened -/
theorem open_rows {α : Type} {t e : TypeId} {fuel : Nat} {cs : List Value} {x : DataW H × List MemPlace} (c : α → List Value) (Q : α → Prop) (size : Nat) (h0 : 0 < size) (ht : P.underlying t = some (.slice e)) (hsz : P.cellsOf e = size)
    (h : DataW.trod enc P w base (fun _ => true) held fuel t cs = some x) (hfit : Fits P t x.1)
    (each : ∀ (n : Nat) (r : List Value) (y : DataW H × List MemPlace), r.length = size → DataW.trod enc P w base (fun _ => true) held n e r = some y → Fits P e y.1 → ∃ a, r = c a ∧ Q a) :
    ∃ (A : Option Addr) (cap : Nat) (l : List α), cs = [.slice A l.length cap] ∧ Rd size w (.slice A l.length cap) l.length (rows c l) ∧ l.length * P.bytesOf e ≤ reachBytes ∧ ∀ a ∈ l, Q a := by
  obtain ⟨A, len, cap, rs, rfl, hl, hrl, hr1, hrd, hby, hrt⟩ := open_anyF size h0 ht hsz h hfit
  obtain ⟨l, hll, hq⟩ := map_of_all c Q rs (fun r hr => by
    obtain ⟨j, hj⟩ := List.getElem?_of_mem hr
    obtain ⟨n, y, hy, hf⟩ := hrt j r hj
    exact each n r y (hr1 r hr) hy hf)
  subst hll
  have hlen : l.length = len := by simpa using hrl
  subst hlen
  exact ⟨A, cap, l, rfl, hrd, hby, hq⟩
end
end Go.Proofs.Ytfmoagpfgkokcaa
