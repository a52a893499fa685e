import Derived.Test.YtkglndlmjleomaaBase
import Derived.MapKept
/-! Maps keyed by 64-bit ints, entry by entry. -/
namespace Go.Proofs.Ytkglndlmjleomaa
open Go.RowKit
open Go.MapKept
set_option linter.unusedVariables false
set_option linter.unusedSimpArgs false

/-- block b is a map with these entries, in the order in which they came -/
def IsMap (w : World) (b : Nat) (ms : List (Int × Value)) : Prop :=
  ∃ es clock, w.heap[b]? = some (.map es clock) ∧ es.toList.map (fun e => (e.key, e.val)) = ms.map (fun p => (Value.int .i64 p.1, p.2)) ∧ (ms.map (·.1)).Nodup ∧ (∀ e ∈ es.toList, e.born < clock) ∧ (es.toList.map (·.born)).Nodup
def getM (k : Int) (ms : List (Int × Value)) : Option Value := (ms.find? (fun p => p.1 == k)).map (·.2)
def putM (k : Int) (v : Value) (ms : List (Int × Value)) : List (Int × Value) := if k ∈ ms.map (·.1) then ms.map (fun p => if p.1 = k then (k, v) else p) else ms ++ [(k, v)]
def delM (k : Int) (ms : List (Int × Value)) : List (Int × Value) := ms.filter (fun p => p.1 != k)

theorem findNow_int (q : IntKind) (k : Int) : ∀ (es : List MapEntry) (ms : List (Int × Value)) (i : Nat), es.map (fun e => (e.key, e.val)) = ms.map (fun p => (Value.int .i64 p.1, p.2)) →
    (k ∉ ms.map (·.1) → Instr.findNow (.int q) (.int .i64 k) es i = some none) ∧
    (∀ (j : Nat) (v : Value), ms[j]? = some (k, v) → (∀ l : Nat, l < j → (ms.map (·.1))[l]? ≠ some k) → Instr.findNow (.int q) (.int .i64 k) es i = some (some (i + j, v))) := by
  intro es
  induction es with
  | nil =>
    intro ms i h
    have h0 : ms = [] := by cases ms with | nil => rfl | cons a t => simp at h
    subst h0
    exact ⟨fun _ => rfl, fun j v h => by simp at h⟩
  | cons e es ih =>
    intro ms i h
    cases ms with
    | nil => simp at h
    | cons p ms =>
      simp only [List.map_cons, List.cons.injEq, Prod.mk.injEq] at h
      obtain ⟨⟨hk, hv⟩, ht⟩ := h
      obtain ⟨i1, i2⟩ := ih ms (i + 1) ht
      have hs : Instr.sameNow (.int q) (.int .i64 k) e.key = some (k == p.1) := by rw [hk]; simp [Instr.sameNow]
      constructor
      · intro hn
        simp only [List.map_cons, List.mem_cons, not_or] at hn
        have hb : (k == p.1) = false := by rw [beq_eq_false_iff_ne]; exact hn.1
        unfold Instr.findNow
        rw [hs, hb]
        exact i1 hn.2
      · intro j v hj hlt
        cases j with
        | zero =>
          simp at hj
          subst hj
          unfold Instr.findNow
          rw [hs]
          simp [hv]
        | succ j =>
          have hne : k ≠ p.1 := fun he => hlt 0 (by omega) (by simp [he])
          have hb : (k == p.1) = false := by rw [beq_eq_false_iff_ne]; exact hne
          unfold Instr.findNow
          rw [hs, hb]
          have := i2 j v (by simpa using hj) (fun l hl => by simpa using hlt (l + 1) (by omega))
          simpa [Nat.add_assoc, Nat.add_comm 1 j] using this
section
variable {P : Program} {T K E : TypeId} {w : World} {b : Nat} {ms : List (Int × Value)}
theorem getM_none {k : Int} (h : k ∉ ms.map (·.1)) : getM k ms = none := by
  unfold getM
  rw [List.find?_eq_none.2 (fun p hp => by simp; exact fun e => h (List.mem_map.2 ⟨p, hp, e⟩))]
  rfl
theorem place_of {k : Int} (hn : (ms.map (·.1)).Nodup) (h : k ∈ ms.map (·.1)) : ∃ (j : Nat) (v : Value), ms[j]? = some (k, v) ∧ (∀ l : Nat, l < j → (ms.map (·.1))[l]? ≠ some k) ∧ getM k ms = some v := by
  obtain ⟨p, hp, rfl⟩ := List.mem_map.1 h
  obtain ⟨j, hj, he⟩ := List.getElem_of_mem hp
  have hj2 : ms[j]? = some p := by rw [List.getElem?_eq_getElem hj, he]
  have hd : ∀ l (hl : l < j), (ms[l]'(by omega)).1 ≠ p.1 := fun l hl => by
    have := List.pairwise_iff_getElem.1 hn l j (by rw [List.length_map]; omega) (by rw [List.length_map]; exact hj) hl
    rw [List.getElem_map, List.getElem_map, he] at this
    exact this
  refine ⟨j, p.2, hj2, fun l hl e => ?_, ?_⟩
  · have hl2 : l < ms.length := by omega
    rw [List.getElem?_map, List.getElem?_eq_getElem hl2] at e
    simp at e
    exact hd l hl e
  · unfold getM
    have : ms.find? (fun q => q.1 == p.1) = some p := by
      rw [List.find?_eq_some_iff_getElem]
      exact ⟨by simp, j, hj, he, fun l hl => by simpa using hd l hl⟩
    rw [this]
    rfl
theorem putM_old {k : Int} {j : Nat} {u v : Value} (hn : (ms.map (·.1)).Nodup) (h1 : ms[j]? = some (k, u)) : putM k v ms = ms.set j (k, v) := by
  have hj : j < ms.length := by
    rcases Nat.lt_or_ge j ms.length with h | h
    · exact h
    · rw [List.getElem?_eq_none h] at h1; cases h1
  have he : ms[j] = (k, u) := by rw [List.getElem?_eq_getElem hj] at h1; exact Option.some.inj h1
  have hm : k ∈ ms.map (·.1) := List.mem_map.2 ⟨(k, u), by rw [← he]; exact List.getElem_mem hj, rfl⟩
  unfold putM
  rw [if_pos hm]
  apply List.ext_getElem (by simp)
  intro l hl1 hl2
  have hl : l < ms.length := by simpa using hl1
  rw [List.getElem_map, List.getElem_set]
  by_cases hlj : j = l
  · subst hlj
    rw [if_pos rfl, he]
    simp
  · rw [if_neg hlj, if_neg]
    intro e
    rcases Nat.lt_or_gt_of_ne hlj with h | h
    · have := List.pairwise_iff_getElem.1 hn j l (by simpa using hj) (by simpa using hl) h
      rw [List.getElem_map, List.getElem_map, he] at this
      exact this e.symm
    · have := List.pairwise_iff_getElem.1 hn l j (by simpa using hl) (by simpa using hj) h
      rw [List.getElem_map, List.getElem_map, he] at this
      exact this e
theorem modify_map {α β : Type} (f : α → α) (g : α → β) (b : β) : ∀ (l : List α) (j : Nat), (∀ a, l[j]? = some a → g (f a) = b) → (l.modify j f).map g = (l.map g).set j b := by
  intro l j h
  apply List.ext_getElem?
  intro i
  rw [List.getElem?_map, List.getElem?_modify, List.getElem?_set, List.getElem?_map, List.length_map]
  by_cases hij : j = i
  · subst hij
    cases hl : l[j]? with
    | none =>
      have : ¬ j < l.length := by
        intro hj
        rw [List.getElem?_eq_getElem hj] at hl
        cases hl
      simp [this]
    | some a =>
      have : j < l.length := by
        rcases Nat.lt_or_ge j l.length with h | h
        · exact h
        · rw [List.getElem?_eq_none h] at hl; cases hl
      simp [this, h a hl]
  · simp [hij]
theorem modify_same {α β : Type} (f : α → α) (g : α → β) (h : ∀ a, g (f a) = g a) (l : List α) (j : Nat) : (l.modify j f).map g = l.map g := by
  apply List.ext_getElem?
  intro i
  rw [List.getElem?_map, List.getElem?_modify, List.getElem?_map]
  cases hl : l[i]? with
  | none => simp
  | some a => by_cases hij : j = i <;> simp [hij, h]
theorem run_look (hT : P.underlying T = some (.map K E)) (hK : P.underlying K = some (.int .i64)) {z : Value} (hz : (zeroValue E).run P w = .ok z w) (h : IsMap w b ms) (k : Int) :
    (Instr.lookup T (.map (some b)) (.int .i64 k) false).run P w = .ok ((getM k ms).getD z) w := by
  obtain ⟨es, clock, hb, he, hn, _⟩ := h
  have ik : IsKey (.int .i64) (.int .i64 k) := by simp [IsKey]
  unfold Instr.lookup
  simp only [Sem.run_bind, run_underlying hT, Result.andThen, Go.MapKept.run_getObj_map hb, run_checkKey hK ik, Sem.run_pure]
  by_cases hm : k ∈ ms.map (·.1)
  · obtain ⟨j, v, h1, h2, h3⟩ := place_of hn hm
    have hf := (findNow_int .i64 k es.toList ms 0 he).2 j v h1 h2
    simp only [run_findKey hK hf, Sem.run_pure, h3]
    rfl
  · have hf := (findNow_int .i64 k es.toList ms 0 he).1 hm
    simp only [run_findKey hK hf, Sem.run_bind, hz, Result.andThen, Sem.run_pure, getM_none hm]
    rfl
theorem run_put (hT : P.underlying T = some (.map K E)) (hK : P.underlying K = some (.int .i64)) (h : IsMap w b ms) (k : Int) (v : Value) :
    ∃ w', (Instr.mapUpdate T (.map (some b)) (.int .i64 k) v).run P w = .ok () w' ∧ IsMap w' b (putM k v ms) ∧ Fr (fun x => x = b) w w' := by
  obtain ⟨es, clock, hb, he, hn, h4, h5⟩ := h
  have ik : IsKey (.int .i64) (.int .i64 k) := by simp [IsKey]
  have hbl : b < w.heap.size := by
    rcases Nat.lt_or_ge b w.heap.size with h | h
    · exact h
    · rw [Array.getElem?_eq_none h] at hb; cases hb
  have frame : ∀ o, Fr (fun x => x = b) w { w with heap := w.heap.setIfInBounds b o } := fun o => ⟨rfl, rfl, rfl, by simp, fun x hx hs => by
    have e : ¬ b = x := fun e => hs e.symm
    simp [Array.getElem?_setIfInBounds, e]⟩
  unfold Instr.mapUpdate
  simp only [Sem.run_bind, run_underlying hT, Result.andThen, Go.MapKept.run_getObj_map hb, run_checkKey hK ik, Sem.run_pure]
  by_cases hm : k ∈ ms.map (·.1)
  · obtain ⟨j, u, h1, h2, h3⟩ := place_of hn hm
    have hf := (findNow_int .i64 k es.toList ms 0 he).2 j u h1 h2
    have hkey : ((es[j]?).map (·.key)).getD (.int .i64 k) = .int .i64 k := by
      have := congrArg (fun l => l[j]?) he
      simp only [List.getElem?_map, h1] at this
      cases hj : es[j]? with
      | none => rfl
      | some e =>
        rw [Array.getElem?_toList, hj] at this
        simp at this
        simp [this.1]
    simp only [run_findKey hK hf, Nat.zero_add, hkey, Instr.keyThatStays, Sem.run_bind]
    rw [if_pos (by simp [Instr.sameBits])]
    simp only [Sem.run_pure, Result.andThen]
    rw [Go.MapKept.run_setObj_map _ hb]
    have hb1 := modify_same (fun e : MapEntry => { e with key := .int .i64 k, val := v }) (·.born) (fun _ => rfl) es.toList j
    refine ⟨_, rfl, ⟨es.modify j (fun e => { e with key := .int .i64 k, val := v }), clock, by simp [hbl], ?_, ?_, ?_, ?_⟩, frame _⟩
    · rw [Array.toList_modify, modify_map (fun e : MapEntry => { e with key := .int .i64 k, val := v }) (fun e => (e.key, e.val)) (Value.int .i64 k, v) _ _ (fun _ _ => rfl), he, putM_old hn h1, List.map_set]
    · rw [putM_old hn h1, List.map_set]
      have : (ms.map (·.1)).set j k = ms.map (·.1) := by
        apply List.ext_getElem?
        intro i
        rw [List.getElem?_set]
        by_cases hij : j = i
        · subst hij
          rw [List.getElem?_map, h1, List.length_map]
          have : j < ms.length := by
            rcases Nat.lt_or_ge j ms.length with h | h
            · exact h
            · rw [List.getElem?_eq_none h] at h1; cases h1
          simp [this]
        · simp [hij]
      dsimp only
      rw [this]
      exact hn
    · intro e hem
      rw [Array.toList_modify] at hem
      have : e.born ∈ (es.toList.map (·.born)) := by rw [← hb1]; exact List.mem_map.2 ⟨e, hem, rfl⟩
      obtain ⟨e0, h0, h00⟩ := List.mem_map.1 this
      rw [← h00]
      exact h4 e0 h0
    · rw [Array.toList_modify, hb1]
      exact h5
  · have hf := (findNow_int .i64 k es.toList ms 0 he).1 hm
    simp only [run_findKey hK hf]
    rw [Go.MapKept.run_setObj_map _ hb]
    refine ⟨_, rfl, ⟨es.push { key := .int .i64 k, val := v, born := clock }, clock + 1, by simp [hbl], ?_, ?_, ?_, ?_⟩, frame _⟩
    · unfold putM
      rw [if_neg hm, Array.toList_push, List.map_append, List.map_append, he]
      rfl
    · unfold putM
      rw [if_neg hm, List.map_append, List.nodup_append]
      refine ⟨hn, by simp, ?_⟩
      intro a ha b' hb'
      simp at hb'
      subst hb'
      exact fun e => hm (e ▸ ha)
    · intro e hem
      rw [Array.toList_push, List.mem_append, List.mem_singleton] at hem
      rcases hem with hem | rfl
      · have := h4 e hem
        omega
      · show clock < clock + 1
        omega
    · rw [Array.toList_push, List.map_append, List.nodup_append]
      refine ⟨h5, by simp, ?_⟩
      intro a ha b' hb'
      simp at hb'
      subst hb'
      obtain ⟨e0, h0, h00⟩ := List.mem_map.1 ha
      have := h4 e0 h0
      intro e
      omega
theorem delM_place {k : Int} {j : Nat} {u : Value} (hn : (ms.map (·.1)).Nodup) (h1 : ms[j]? = some (k, u)) : delM k ms = ms.eraseIdx j := by
  have hj : j < ms.length := by
    rcases Nat.lt_or_ge j ms.length with h | h
    · exact h
    · rw [List.getElem?_eq_none h] at h1; cases h1
  have he : ms[j] = (k, u) := by rw [List.getElem?_eq_getElem hj] at h1; exact Option.some.inj h1
  have hs : ms = ms.take j ++ (k, u) :: ms.drop (j + 1) := by
    rw [← he, ← List.drop_eq_getElem_cons hj, List.take_append_drop]
  have hn2 := hn
  rw [hs, List.map_append, List.map_cons, List.nodup_append] at hn2
  have hk1 : ∀ p ∈ ms.take j, p.1 ≠ k := fun p hp => hn2.2.2 p.1 (List.mem_map.2 ⟨p, hp, rfl⟩) k (by simp)
  have hk2 : ∀ p ∈ ms.drop (j + 1), p.1 ≠ k := fun p hp e => (List.nodup_cons.1 hn2.2.1).1 (List.mem_map.2 ⟨p, hp, e⟩)
  rw [List.eraseIdx_eq_take_drop_succ]
  unfold delM
  conv => lhs; rw [hs]
  rw [List.filter_append, List.filter_cons, if_neg (by simp), List.filter_eq_self.2 (fun p hp => by simpa using hk1 p hp), List.filter_eq_self.2 (fun p hp => by simpa using hk2 p hp)]
theorem delM_none {k : Int} (h : k ∉ ms.map (·.1)) : delM k ms = ms := by
  unfold delM
  exact List.filter_eq_self.2 (fun p hp => by simp; exact fun e => h (List.mem_map.2 ⟨p, hp, e⟩))
theorem eraseIdx_map {α β : Type} (g : α → β) (l : List α) (j : Nat) : (l.eraseIdx j).map g = (l.map g).eraseIdx j := by
  rw [List.eraseIdx_eq_take_drop_succ, List.eraseIdx_eq_take_drop_succ, List.map_append, List.map_take, List.map_drop]
theorem run_del {ty : TypeId} (hT : P.underlying T = some (.map K E)) (hK : P.underlying K = some (.int .i64)) (h : IsMap w b ms) (k : Int) :
    ∃ w', (Builtin.delete_ #[T, K] ty #[.map (some b), .int .i64 k]).run P w = .ok (.tuple #[]) w' ∧ IsMap w' b (delM k ms) ∧ Fr (fun x => x = b) w w' := by
  obtain ⟨es, clock, hb, he, hn, h4, h5⟩ := h
  have ik : IsKey (.int .i64) (.int .i64 k) := by simp [IsKey]
  have hbl : b < w.heap.size := by
    rcases Nat.lt_or_ge b w.heap.size with h | h
    · exact h
    · rw [Array.getElem?_eq_none h] at hb; cases hb
  have frame : ∀ o, Fr (fun x => x = b) w { w with heap := w.heap.setIfInBounds b o } := fun o => ⟨rfl, rfl, rfl, by simp, fun x hx hs => by
    have e : ¬ b = x := fun e => hs e.symm
    simp [Array.getElem?_setIfInBounds, e]⟩
  unfold Builtin.delete_
  simp only [List.getElem?_toArray, List.getElem?_cons_zero, List.getElem?_cons_succ, Sem.run_bind, run_underlying hT, Result.andThen, Go.MapKept.run_getObj_map hb, run_checkKey hK ik, Sem.run_pure]
  by_cases hm : k ∈ ms.map (·.1)
  · obtain ⟨j, u, h1, h2, h3⟩ := place_of hn hm
    have hf := (findNow_int .i64 k es.toList ms 0 he).2 j u h1 h2
    simp only [run_findKey hK hf, Nat.zero_add]
    rw [Sem.run_bind, Go.MapKept.run_setObj_map _ hb]
    refine ⟨_, rfl, ⟨es.eraseIdxIfInBounds j, clock, by simp [hbl], ?_, ?_, ?_, ?_⟩, frame _⟩
    · rw [Array.toList_eraseIdxIfInBounds, eraseIdx_map, he, delM_place hn h1, eraseIdx_map]
    · rw [delM_place hn h1, eraseIdx_map]
      exact hn.sublist (List.eraseIdx_sublist _ _)
    · intro e hem
      rw [Array.toList_eraseIdxIfInBounds] at hem
      exact h4 e ((List.eraseIdx_sublist _ _).subset hem)
    · rw [Array.toList_eraseIdxIfInBounds, eraseIdx_map]
      exact h5.sublist (List.eraseIdx_sublist _ _)
  · have hf := (findNow_int .i64 k es.toList ms 0 he).1 hm
    simp only [run_findKey hK hf]
    rw [Sem.run_bind, Go.MapKept.run_setObj_map _ hb]
    exact ⟨_, rfl, ⟨es, clock, by simp [hbl], by rw [delM_none hm]; exact he, by rw [delM_none hm]; exact hn, h4, h5⟩, frame _⟩
theorem run_lenM {ty : TypeId} (hT : P.underlying T = some (.map K E)) (h : IsMap w b ms) : (Builtin.len_ #[T] ty #[.map (some b)]).run P w = .ok (.int .i64 ms.length) w := by
  obtain ⟨es, clock, hb, he, hn, h4, h5⟩ := h
  have hs : es.size = ms.length := by
    have := congrArg List.length he
    simpa using this
  unfold Builtin.len_
  simp only [List.getElem?_toArray, List.getElem?_cons_zero, Sem.run_bind, run_underlying hT, Result.andThen, Go.MapKept.run_getObj_map hb, Sem.run_pure, hs]
  rfl
theorem IsMap.keep {w' : World} {S : Nat → Prop} (h : IsMap w b ms) (hf : Fr S w w') (hS : ¬ S b) : IsMap w' b ms := by
  obtain ⟨es, clock, hb, he⟩ := h
  have hbl : b < w.heap.size := by
    rcases Nat.lt_or_ge b w.heap.size with h | h
    · exact h
    · rw [Array.getElem?_eq_none h] at hb; cases hb
  exact ⟨es, clock, (hf.block b hbl hS).trans hb, he⟩
theorem IsMap.new (w : World) : IsMap (w.alloc (.map #[] 0)) w.heap.size [] := ⟨#[], 0, heap_alloc_new w _, rfl, by simp, by simp, by simp⟩
theorem IsMap.nodup (h : IsMap w b ms) : (ms.map (·.1)).Nodup := by
  obtain ⟨_, _, _, _, hn, _⟩ := h
  exact hn
end
/-! ## what a map comes to -/
section
variable {ms : List (Int × Value)}
theorem getM_put_same (k : Int) (v : Value) (hn : (ms.map (·.1)).Nodup) : getM k (putM k v ms) = some v := by
  by_cases hm : k ∈ ms.map (·.1)
  · obtain ⟨j, u, h1, h2, h3⟩ := place_of hn hm
    unfold putM
    rw [if_pos hm]
    unfold getM
    rw [List.find?_map]
    obtain ⟨p, hp, he⟩ := List.mem_map.1 hm
    have : ms.find? ((fun p : Int × Value => p.1 == k) ∘ fun p => if p.1 = k then (k, v) else p) = ms.find? (fun p => p.1 == k) := by
      congr 1
      funext p
      by_cases hp : p.1 = k <;> simp [hp]
    rw [this]
    unfold getM at h3
    cases hf : ms.find? (fun p => p.1 == k) with
    | none => rw [hf] at h3; cases h3
    | some q =>
      have hq := List.find?_some hf
      simp at hq
      simp [hq]
  · unfold putM
    rw [if_neg hm]
    unfold getM
    rw [List.find?_append, List.find?_eq_none.2 (fun p hp => by simp; exact fun e => hm (List.mem_map.2 ⟨p, hp, e⟩))]
    simp
theorem getM_put_other {k k' : Int} (v : Value) (h : k' ≠ k) : getM k' (putM k v ms) = getM k' ms := by
  unfold putM
  split
  · unfold getM
    rw [List.find?_map]
    have : ms.find? ((fun p : Int × Value => p.1 == k') ∘ fun p => if p.1 = k then (k, v) else p) = ms.find? (fun p => p.1 == k') := by
      congr 1
      funext p
      by_cases hp : p.1 = k
      · simp [hp]
      · simp [hp]
    rw [this]
    cases hf : ms.find? (fun p => p.1 == k') with
    | none => rfl
    | some q =>
      have hq := List.find?_some hf
      simp at hq
      simp [hq, h]
  · unfold getM
    rw [List.find?_append]
    have : ([(k, v)] : List (Int × Value)).find? (fun p => p.1 == k') = none := by simp; exact fun e => h e.symm
    rw [this]
    simp
theorem getM_del_same (k : Int) : getM k (delM k ms) = none := getM_none (by unfold delM; simp)
theorem getM_del_other {k k' : Int} (h : k' ≠ k) : getM k' (delM k ms) = getM k' ms := by
  unfold getM delM
  rw [List.find?_filter]
  congr 2
  funext p
  by_cases hp : p.1 = k'
  · simp [hp, h]
  · simp [hp]
theorem mem_put (k : Int) (v : Value) (k' : Int) : k' ∈ (putM k v ms).map (·.1) ↔ k' = k ∨ k' ∈ ms.map (·.1) := by
  unfold putM
  split
  · rename_i hm
    rw [List.map_map]
    constructor
    · intro h
      obtain ⟨p, hp, he⟩ := List.mem_map.1 h
      by_cases hpk : p.1 = k
      · simp [hpk] at he; exact .inl he.symm
      · simp [hpk] at he; exact .inr (List.mem_map.2 ⟨p, hp, he⟩)
    · intro h
      rcases h with rfl | h
      · obtain ⟨p, hp, he⟩ := List.mem_map.1 hm
        exact List.mem_map.2 ⟨p, hp, by simp [he]⟩
      · obtain ⟨p, hp, he⟩ := List.mem_map.1 h
        refine List.mem_map.2 ⟨p, hp, ?_⟩
        by_cases hpk : p.1 = k
        · simp [hpk, ← he]
        · simp only [Function.comp, if_neg hpk]; exact he
  · simp [or_comm]
end
end Go.Proofs.Ytkglndlmjleomaa
