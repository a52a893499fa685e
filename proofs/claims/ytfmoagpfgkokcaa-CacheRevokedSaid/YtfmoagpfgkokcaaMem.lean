import Derived.Test.YtfmoagpfgkokcaaBase
import Derived.ArgAppend
import Derived.Laws.IdiomCopy
/-! Many cells of a row of the call's own written at once; 'clear' of elements of any size. -/
namespace Go.Proofs.Ytfmoagpfgkokcaa
open Go.RowKit
set_option linter.unusedVariables false
set_option linter.unusedSimpArgs false

def over (cur : Array Value) (o : Nat) : List Value → Array Value
  | [] => cur
  | v :: r => over (cur.setIfInBounds o v) (o + 1) r
theorem over_size : ∀ (vs : List Value) (cur : Array Value) (o : Nat), (over cur o vs).size = cur.size
  | [], _, _ => rfl
  | v :: r, cur, o => by rw [over, over_size r]; simp
theorem over_get : ∀ (vs : List Value) (cur : Array Value) (o : Nat), o + vs.length ≤ cur.size → ∀ j, (over cur o vs)[j]? = if o ≤ j ∧ j < o + vs.length then vs[j - o]? else cur[j]?
  | [], cur, o, _, j => by simp [over]; omega
  | v :: r, cur, o, h, j => by
    simp only [List.length_cons] at h
    rw [over, over_get r _ _ (by simp only [Array.size_setIfInBounds]; omega)]
    simp only [List.length_cons]
    by_cases h1 : o + 1 ≤ j ∧ j < o + 1 + r.length
    · rw [if_pos h1, if_pos (by omega), show j - o = (j - (o + 1)) + 1 by omega, List.getElem?_cons_succ]
    · rw [if_neg h1]
      by_cases h2 : j = o
      · subst h2
        rw [if_pos (by omega), Nat.sub_self, Array.getElem?_setIfInBounds_self_of_lt (by omega)]
        rfl
      · rw [if_neg (by omega)]
        rw [Array.getElem?_setIfInBounds_ne (by omega)]
theorem setCells_heap : ∀ (vs : List Value) (w : World) (g o : Nat) (cur : Array Value) (e : TypeId) (fr : Nat × Nat), w.heap[g]? = some (.cells cur e fr) → (w.setCells g o vs).heap[g]? = some (.cells (over cur o vs) e fr)
  | [], _, _, _, _, _, _, h => h
  | v :: r, w, g, o, cur, e, fr, h => by
    rw [World.setCells, over]
    refine setCells_heap r _ g (o + 1) _ e fr ?_
    simp [World.setCell, Array.getElem?_modify, h]
theorem Fr.setCells {S : Nat → Prop} {w w1 : World} (h : Fr S w w1) {g : Nat} (hg : g < w.heap.size → S g) : ∀ (vs : List Value) (o : Nat), Fr S w (w1.setCells g o vs) := by
  intro vs
  induction vs generalizing w1 with
  | nil => intro o; exact h
  | cons v r ih => intro o; exact ih (h.setCell (p := ⟨g, o, none⟩) hg v) (o + 1)
theorem over_list (vs : List Value) (cur : Array Value) (o : Nat) (h : o + vs.length ≤ cur.size) : (over cur o vs).toList = cur.toList.take o ++ vs ++ cur.toList.drop (o + vs.length) := by
  apply List.ext_getElem?
  intro j
  rw [Array.getElem?_toList, over_get vs cur o h j]
  have l1 : (cur.toList.take o).length = o := by simp; omega
  by_cases c1 : j < o
  · rw [if_neg (by omega), List.append_assoc, List.getElem?_append_left (by omega), List.getElem?_take, if_pos c1, Array.getElem?_toList]
  · by_cases c2 : j < o + vs.length
    · rw [if_pos (by omega), List.append_assoc, List.getElem?_append_right (by omega), l1, List.getElem?_append_left (by omega)]
    · rw [if_neg (by omega), List.getElem?_append_right (by simp; omega), List.getElem?_drop, Array.getElem?_toList]
      simp only [List.length_append, l1]
      congr 1
      omega

section
variable {e : TypeId} {size : Nat} {w w' : World} {g n cap : Nat} {xs : List Value}
/-- a row of the call's own at block g: what its block holds -/
theorem Own.cur (h : Own e size w (.slice (some ⟨g, 0, none⟩) n cap) n xs) : ∃ cur, w.heap[g]? = some (.cells cur e (0, 0)) ∧ n ≤ cap ∧ cap ≤ maxLen ∧ cap * size ≤ cur.size ∧ cur.toList.take (n * size) = xs := by
  rcases h.2 with ⟨h0, _⟩ | ⟨g', cap', cur, hv, hg, hn, hc, hs, ht⟩
  · cases h0
  · injection hv with h1 h2 h3
    injection h1 with h1
    injection h1 with h1 _ _
    subst h1 h3
    exact ⟨cur, hg, hn, hc, hs, ht⟩
theorem Own.of_cur {cur : Array Value} (hg : w.heap[g]? = some (.cells cur e (0, 0))) (hn : n ≤ cap) (hc : cap ≤ maxLen) (hs : cap * size ≤ cur.size) (ht : cur.toList.take (n * size) = xs) : Own e size w (.slice (some ⟨g, 0, none⟩) n cap) n xs := by
  refine ⟨?_, .inr ⟨g, cap, cur, rfl, hg, hn, hc, hs, ht⟩⟩
  rw [← ht, List.length_take, Array.length_toList]
  exact Nat.min_eq_left (Nat.le_trans (Nat.mul_le_mul_right _ hn) hs)
/-- cells from s on, up to where the room ends: they are there, not frozen -/
theorem Own.room (h : Own e size w (.slice (some ⟨g, 0, none⟩) n cap) n xs) (j : Nat) (hj : j < cap * size) : (w.cell? ⟨g, j, none⟩).isSome = true ∧ w.frozen? ⟨g, j, none⟩ = false := by
  refine ⟨?_, h.frozen j⟩
  obtain ⟨cur, hg, hn, hc, hs, ht⟩ := h.cur
  rw [cell_of_row w g j cur e (0, 0) hg, Array.getElem?_eq_getElem (by omega)]
  rfl
/-- m elements are written from the k-th on: the row reads to there -/
theorem Own.lay_ (h : Own e size w (.slice (some ⟨g, 0, none⟩) n cap) n xs) (k m : Nat) (vs : List Value) (hk : k ≤ n) (hv : vs.length = m * size) (hm : k + m ≤ cap) :
    Own e size (w.setCells g (k * size) vs) (.slice (some ⟨g, 0, none⟩) (k + m) cap) (k + m) (xs.take (k * size) ++ vs) := by
  obtain ⟨cur, hg, hn, hc, hs, ht⟩ := h.cur
  have hfit : k * size + vs.length ≤ cur.size := by rw [hv, ← Nat.add_mul]; exact Nat.le_trans (Nat.mul_le_mul_right _ hm) hs
  refine Own.of_cur (setCells_heap vs w g (k * size) cur e (0, 0) hg) hm hc (by rw [over_size]; exact hs) ?_
  have l1 : (cur.toList.take (k * size)).length = k * size := by simp; omega
  rw [over_list _ _ _ hfit, Nat.add_mul, ← hv, List.take_append_of_le_length (by simp; omega), List.take_of_length_le (by rw [List.length_append, l1]; exact Nat.le_refl _), ← ht, List.take_take, Nat.min_eq_left (Nat.mul_le_mul_right _ hk)]
/-- cells behind are written -/
theorem Own.behind (h : Own e size w (.slice (some ⟨g, 0, none⟩) n cap) n xs) (o : Nat) (vs : List Value) (ho : n * size ≤ o) (hv : o + vs.length ≤ cap * size) :
    Own e size (w.setCells g o vs) (.slice (some ⟨g, 0, none⟩) n cap) n xs := by
  obtain ⟨cur, hg, hn, hc, hs, ht⟩ := h.cur
  refine Own.of_cur (setCells_heap vs w g o cur e (0, 0) hg) hn hc (by rw [over_size]; exact hs) ?_
  rw [over_list _ _ _ (by omega), List.append_assoc, List.take_append_of_le_length (by simp; omega), List.take_take, Nat.min_eq_left ho, ht]
/-- the first k elements alone -/
theorem Own.first (h : Own e size w (.slice (some ⟨g, 0, none⟩) n cap) n xs) (k : Nat) (hk : k ≤ n) : Own e size w (.slice (some ⟨g, 0, none⟩) k cap) k (xs.take (k * size)) := by
  obtain ⟨cur, hg, hn, hc, hs, ht⟩ := h.cur
  refine Own.of_cur hg (by omega) hc hs ?_
  rw [← ht, List.take_take, Nat.min_eq_left (Nat.mul_le_mul_right _ hk)]
end

/-- 'clear(s)', s a slice of n > 0 elements of any size -/
theorem run_clear_any {P : Program} (w : World) (t e : TypeId) (z : Value) (size : Nat) (ht : P.underlying t = some (.slice e)) (hv : ∀ w, (zeroValue e).run P w = .ok z w) (hz : z.cells.size = size) (h1 : ∀ u ∈ z.cells.toList, u.oneCell' = true) (b o n c : Nat) (hn : 0 < n) (hs : 0 < size)
    (hc : ∀ j, j < n * size → (w.cell? ⟨b, o + j, none⟩).isSome = true) (hf : ∀ j, j < n * size → w.frozen? ⟨b, o + j, none⟩ = false) :
    ∃ vs : List Value, vs.length = n * size ∧ ∀ ty, (Builtin.clear_ #[t] ty #[.slice (some ⟨b, o, none⟩) n c]).run P w = .ok (.tuple #[]) (w.setCells b o vs) := by
  have hl : (Builtin.zeroCells z.cells n).toList.length = n * size := by simp [size_zeroCells, hz]
  have h1' : ∀ v ∈ (Builtin.zeroCells z.cells n).toList, v.oneCell' = true := by
    intro v hv'
    simp only [Builtin.zeroCells] at hv'
    obtain ⟨i, hi, rfl⟩ := List.getElem_of_mem hv'
    simp only [Array.length_toList, Array.size_map, Array.size_range] at hi
    simp only [Array.getElem_toList, Array.getElem_map, Array.getElem_range]
    have : i % z.cells.size < z.cells.size := Nat.mod_lt _ (by omega)
    rw [getElem!_pos z.cells _ this]
    exact h1 _ (by simp)
  have hst := run_storeCells_cells (P := P) b o (Builtin.zeroCells z.cells n).toList 0 w (by rw [hl]; simpa using hc) (by rw [hl]; simpa using hf) h1'
  simp only [Nat.add_zero] at hst
  refine ⟨(Builtin.zeroCells z.cells n).toList, hl, fun ty => ?_⟩
  obtain ⟨m, rfl⟩ : ∃ m, n = m + 1 := ⟨n - 1, by omega⟩
  simp [Builtin.clear_, run_underlying ht, hv, hst]

/-! ## rows of elements -/
section
variable {α : Type} (c : α → List Value) (s : Nat)
def rows (l : List α) : List Value := (l.map c).flatten
theorem rows_nil : rows c [] = [] := rfl
theorem rows_cons (x : α) (l : List α) : rows c (x :: l) = c x ++ rows c l := by simp [rows]
theorem rows_append (l m : List α) : rows c (l ++ m) = rows c l ++ rows c m := by simp [rows]
theorem rows_one (x : α) : rows c [x] = c x := by simp [rows]
variable {c s}
theorem rows_length (hc : ∀ x, (c x).length = s) : ∀ l : List α, (rows c l).length = l.length * s
  | [] => by simp [rows]
  | x :: l => by rw [rows_cons, List.length_append, hc, rows_length hc l, List.length_cons, Nat.succ_mul, Nat.add_comm]
theorem rows_take (hc : ∀ x, (c x).length = s) : ∀ (l : List α) (k : Nat), (rows c l).take (k * s) = rows c (l.take k)
  | [], k => by simp [rows]
  | x :: l, 0 => by simp [rows]
  | x :: l, k + 1 => by
    have e : (k + 1) * s = s + k * s := by rw [Nat.succ_mul, Nat.add_comm]
    rw [rows_cons, List.take_succ_cons, rows_cons, e, ← hc x, List.take_length_add_append, hc x, rows_take hc l k]
theorem rows_drop (hc : ∀ x, (c x).length = s) : ∀ (l : List α) (k : Nat), (rows c l).drop (k * s) = rows c (l.drop k)
  | [], k => by simp [rows]
  | x :: l, 0 => by simp
  | x :: l, k + 1 => by
    have e : (k + 1) * s = s + k * s := by rw [Nat.succ_mul, Nat.add_comm]
    rw [rows_cons, List.drop_succ_cons, e, ← hc x, List.drop_length_add_append, hc x, rows_drop hc l k]
theorem rows_get (hc : ∀ x, (c x).length = s) {l : List α} {k : Nat} {x : α} (h : l[k]? = some x) (j : Nat) (hj : j < s) : (rows c l)[k * s + j]? = (c x)[j]? := by
  have h1 : (rows c l).drop (k * s) = rows c (l.drop k) := rows_drop hc l k
  have h2 : l.drop k = x :: l.drop (k + 1) := by
    obtain ⟨hk, rfl⟩ := List.getElem?_eq_some_iff.1 h
    exact List.drop_eq_getElem_cons hk
  rw [← List.getElem?_drop, h1, h2, rows_cons, List.getElem?_append_left (by rw [hc]; exact hj)]
theorem rows_one_cell (h1 : ∀ x, ∀ u ∈ c x, u.oneCell' = true) (l : List α) : ∀ u ∈ rows c l, u.oneCell' = true := by
  intro u hu
  simp only [rows, List.mem_flatten, List.mem_map] at hu
  obtain ⟨r, ⟨x, _, rfl⟩, hu⟩ := hu
  exact h1 x u hu
end

/-- a call of a function of one argument, as one step of a region that draws -/
theorem step_fn {P : Program} {ops : Array Oper} {o : Oper} {a : Act} {w : World} {K : Act → World → Prop} {Q : Exit → Act → World → Prop} {E : Prop} (hgd : o.guard = none) (f : FuncId) (x : Operand) (t : TypeId)
    (ho : o.op = .call { callee := .value (.func f), args := #[x], argTypes := #[t] }) (v : Value) (hx : a.eval x = v) (R : Value → World → Prop)
    (hc : Calls P f #[v] w fun e w' => ∃ r, e = .returned r ∧ R r w') (hcf : (callFunc f #[v]).run P w = .ok (.enter f #[v]) w) (h : ∀ r w', R r w' → K (a.put o.dst r) w') :
    if Region.wanted o (yielded ops a.tmps) = true then Oper.wp P o a w K Q else E := by
  have hw : Region.wanted o (yielded ops a.tmps) = true := by simp [Region.wanted, hgd]
  rw [if_pos hw]
  have he : (execOp a.eval o).run P w = .ok (.enter f #[v]) w := by
    have hf : a.eval (.func f) = .func (.func f) #[] #[] := rfl
    simp [execOp, ho, resolve, invoke, hx, hf, Deferred.ofValue, hcf]
  unfold Oper.wp
  rw [he, Oper.upon_enter]
  refine hc.mono ?_
  rintro e w' ⟨r, rfl, hr⟩
  exact h r w' hr
/-- a call of a function of two arguments, as one step of a region that draws -/
theorem step_fn2 {P : Program} {ops : Array Oper} {o : Oper} {a : Act} {w : World} {K : Act → World → Prop} {Q : Exit → Act → World → Prop} {E : Prop} (hgd : o.guard = none) (f : FuncId) (x y : Operand) (t t2 : TypeId)
    (ho : o.op = .call { callee := .value (.func f), args := #[x, y], argTypes := #[t, t2] }) (v v2 : Value) (hx : a.eval x = v) (hy : a.eval y = v2) (R : Value → World → Prop)
    (hc : Calls P f #[v, v2] w fun e w' => ∃ r, e = .returned r ∧ R r w') (hcf : (callFunc f #[v, v2]).run P w = .ok (.enter f #[v, v2]) w) (h : ∀ r w', R r w' → K (a.put o.dst r) w') :
    if Region.wanted o (yielded ops a.tmps) = true then Oper.wp P o a w K Q else E := by
  have hw : Region.wanted o (yielded ops a.tmps) = true := by simp [Region.wanted, hgd]
  rw [if_pos hw]
  have he : (execOp a.eval o).run P w = .ok (.enter f #[v, v2]) w := by
    have hf : a.eval (.func f) = .func (.func f) #[] #[] := rfl
    simp [execOp, ho, resolve, invoke, hx, hy, hf, Deferred.ofValue, hcf]
  unfold Oper.wp
  rw [he, Oper.upon_enter]
  refine hc.mono ?_
  rintro e w' ⟨r, rfl, hr⟩
  exact h r w' hr
end Go.Proofs.Ytfmoagpfgkokcaa
