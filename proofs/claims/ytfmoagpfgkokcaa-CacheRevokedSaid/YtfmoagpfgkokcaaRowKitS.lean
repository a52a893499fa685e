import Derived.Test.YtfmoagpfgkokcaaBase
import Derived.ProofKit
import Derived.OpenShut
import Derived.Deep.Slices
/-! What came in, opened: a slice of elements of any size; bytes; lists of bytes; numbers. -/
namespace Go.Proofs.Ytfmoagpfgkokcaa
open Go.RowKit Go.ChangeShapes Go.WideShapes
set_option linter.unusedVariables false

theorem sum_const (size : Nat) : ∀ len : Nat, ((List.range len).map (fun _ => size)).sum = len * size
  | 0 => by simp
  | n + 1 => by
    rw [List.range_succ, List.map_append, List.sum_append, sum_const size n, Nat.succ_mul]
    rfl
theorem flatten_get (size : Nat) (hs : 0 < size) : ∀ (rows : List (List Value)), (∀ r ∈ rows, r.length = size) → ∀ (j : Nat) (u : Value), rows.flatten[j]? = some u → ∃ r, rows[j / size]? = some r ∧ r[j % size]? = some u := by
  intro rows
  induction rows with
  | nil => intro _ j u h; simp at h
  | cons r rows ih =>
    intro hr j u h
    have h1 : r.length = size := hr r (by simp)
    rw [List.flatten_cons] at h
    rcases Nat.lt_or_ge j size with hj | hj
    · rw [List.getElem?_append_left (by omega)] at h
      exact ⟨r, by rw [Nat.div_eq_of_lt hj]; rfl, by rw [Nat.mod_eq_of_lt hj]; exact h⟩
    · rw [List.getElem?_append_right (by omega), h1] at h
      obtain ⟨r', h2, h3⟩ := ih (fun r h => hr r (by simp [h])) _ _ h
      refine ⟨r', ?_, ?_⟩
      · rw [Nat.div_eq_sub_div hs hj]
        simpa using h2
      · rw [Nat.mod_eq_sub_mod hj]
        exact h3

section
variable {H : Type} {enc : TypeId × Value → H} {P : Program} {w : World} {base : Nat} {held : Bool}
theorem open_any {t e : TypeId} {fuel : Nat} {cs : List Value} {x : DataW H × List MemPlace} (size : Nat) (h0 : 0 < size) (ht : P.underlying t = some (.slice e)) (hsz : P.cellsOf e = size)
    (h : DataW.trod enc P w base (fun _ => true) held fuel t cs = some x) :
    ∃ (A : Option Addr) (len cap : Nat) (rows : List (List Value)), cs = [.slice A len cap] ∧ len ≤ cap ∧ cap ≤ maxLen ∧ rows.length = len ∧ (∀ r ∈ rows, r.length = size) ∧
      Rd size w (.slice A len cap) len rows.flatten ∧ (∀ k, Of (.slice A len cap) k → 0 < len → k < w.heap.size) ∧ ∀ (i : Nat) (r : List Value), rows[i]? = some r → ∃ n y, DataW.trod enc P w base (fun _ => true) held n e r = some y := by
  rcases Go.Deep.open_slice ht h with ⟨rfl, _⟩ | ⟨a, len, cap, m, n, D, Pl, rfl, hb, hl, hm, hmm, _, hx⟩
  · exact ⟨none, 0, 0, [], rfl, Nat.le_refl _, by simp, rfl, by simp, Rd.nil _ _, fun k hk => absurd hk Of_none, by simp⟩
  · have hmc : m = cap := by simpa using hmm
    subst hmc
    rw [hsz] at hx
    obtain ⟨R, hR⟩ := Go.Deep.choose_lt hx
    have hlen : ∀ i, i < m → (R i).length = size := fun i hi => (World.cells?_some (hR i hi).1).2.1
    have hrl : ∀ r ∈ (List.range len).map R, r.length = size := by
      intro r hr
      obtain ⟨i, hi, rfl⟩ := List.mem_map.1 hr
      exact hlen i (by have := List.mem_range.1 hi; omega)
    have hfl : ((List.range len).map R).flatten.length = len * size := by
      rw [List.length_flatten, List.map_map]
      have : ((List.range len).map (List.length ∘ R)) = (List.range len).map (fun _ => size) := List.map_congr_left (fun i hi => hlen i (by have := List.mem_range.1 hi; omega))
      rw [this]
      exact sum_const size len
    have cell : ∀ i j u, i < len → (R i)[j]? = some u → j < size → w.cell? ((a.add (i * size)).add j) = some u := by
      intro i j u hi hu hj
      rw [(World.cells?_some (hR i (by omega)).1).2.2 j hj]
      exact hu
    refine ⟨some a, len, m, (List.range len).map R, rfl, hl, hm, by simp, hrl, ⟨some a, m, rfl, hl, hfl, fun hn => ?_⟩, ?_, ?_⟩
    · have hc0 := cell 0 0 ((R 0)[0]'(by rw [hlen 0 (by omega)]; exact h0)) hn (by simp) h0
      obtain ⟨b, off, spot⟩ := a
      have hspot : spot = none := by
        have := World.cell?_spot hc0
        simpa [Addr.add] using this
      subst hspot
      refine ⟨b, off, rfl, ?_, fun j u hu => ?_⟩
      · have := World.block_lt_of_cell? w _ hc0
        simpa [add_off] using this
      · obtain ⟨r, h1, h2⟩ := flatten_get size h0 _ hrl j u hu
        have hi : j / size < len := by
          rcases Nat.lt_or_ge (j / size) len with h | h
          · exact h
          · rw [List.getElem?_eq_none (by simpa using h)] at h1; cases h1
        have h3 : r = R (j / size) := by simpa [hi] using h1.symm
        subst h3
        have := cell (j / size) (j % size) u hi h2 (Nat.mod_lt _ h0)
        rw [add_off, add_off] at this
        rw [show off + j = off + j / size * size + j % size by rw [Nat.add_assoc, Nat.mul_comm, Nat.div_add_mod]]
        exact this
    · intro k hk hl0
      have hc0 := cell 0 0 ((R 0)[0]'(by rw [hlen 0 (by omega)]; exact h0)) hl0 (by simp) h0
      have := World.block_lt_of_cell? w _ hc0
      rw [Of_some.1 hk]
      obtain ⟨b, off, spot⟩ := a
      simpa [Addr.add] using this
    · intro i r hir
      have hi : i < len := by
        rcases Nat.lt_or_ge i len with h | h
        · exact h
        · rw [List.getElem?_eq_none (by simpa using h)] at hir; cases hir
      have h3 : r = R i := by simpa [hi] using hir.symm
      subst h3
      exact ⟨n, _, (hR i (by omega)).2⟩

theorem map_of_all {α β : Type} (f : β → α) (Q : β → Prop) : ∀ (l : List α), (∀ a ∈ l, ∃ b, a = f b ∧ Q b) → ∃ bs : List β, l = bs.map f ∧ ∀ b ∈ bs, Q b
  | [], _ => ⟨[], rfl, by simp⟩
  | a :: l, h => by
    obtain ⟨b, h1, h2⟩ := h a (by simp)
    obtain ⟨bs, h3, h4⟩ := map_of_all f Q l (fun a ha => h a (by simp [ha]))
    refine ⟨b :: bs, by rw [List.map_cons, ← h1, ← h3], fun x hx => ?_⟩
    rcases List.mem_cons.1 hx with rfl | h5
    · exact h2
    · exact h4 x h5
theorem flatten_single {β : Type} (f : β → Value) (bs : List β) : (bs.map (fun b => [f b])).flatten = bs.map f := by
  induction bs with
  | nil => rfl
  | cons b bs ih => simp [ih]
theorem u8_of_trod {e : TypeId} (he : P.underlying e = some (.int .u8)) {n : Nat} {r : List Value} {y : DataW H × List MemPlace} {spare : Nat → Bool} (h : DataW.trod enc P w base spare held n e r = some y) : ∃ b : UInt8, r = [bv b] := by
  obtain ⟨k, hk, _, wk⟩ := DataW.trod_int he h
  have h4 : 0 ≤ k ∧ k ≤ 255 := by simpa [Lit.wf, IntKind.min, IntKind.max, IntKind.signed, IntKind.bits] using wk
  exact ⟨UInt8.ofNat k.toNat, by rw [hk]; simp [bv]; omega⟩
theorem i64_of_trod {e : TypeId} (he : P.underlying e = some (.int .i64)) {n : Nat} {r : List Value} {y : DataW H × List MemPlace} {spare : Nat → Bool} (h : DataW.trod enc P w base spare held n e r = some y) : ∃ z : Int, r = [.int .i64 z] ∧ -9223372036854775808 ≤ z ∧ z ≤ 9223372036854775807 := by
  obtain ⟨k, hk, _, wk⟩ := DataW.trod_int he h
  have h4 : -9223372036854775808 ≤ k ∧ k ≤ 9223372036854775807 := by simpa [Lit.wf, IntKind.min, IntKind.max, IntKind.signed, IntKind.bits] using wk
  exact ⟨k, hk, h4⟩
end
end Go.Proofs.Ytfmoagpfgkokcaa
