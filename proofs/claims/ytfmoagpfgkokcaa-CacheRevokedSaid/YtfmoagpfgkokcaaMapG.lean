import Derived.Test.YtfmoagpfgkokcaaBase
import Derived.MapKept
import Derived.Maps.RangeRun
import Derived.Laws.StructEq
/-! Maps entry by entry, whatever their keys' type: numbers, structs of numbers; what a range over one meets. -/
namespace Go.Proofs.Ytfmoagpfgkokcaa
open Go.RowKit
open Go.MapKept
set_option linter.unusedVariables false
set_option linter.unusedSimpArgs false
set_option linter.unusedSectionVars false

/-- what the laws below ask of a key's type: each key is 'enc k' -/
structure KeyOK (P : Program) (K : TypeId) {κ : Type} (enc : κ → Value) : Prop where
  inj : ∀ {a b : κ}, enc a = enc b → a = b
  check : ∀ (w : World) (em : Bool) (k : κ), (Instr.checkKey em 10000 K (enc k)).run P w = .ok () w
  find : ∀ (w : World) (k : κ) (es : List MapEntry), (∀ e ∈ es, ∃ k', e.key = enc k') →
    ((Instr.findKey K (enc k) es).run P w = .ok none w ∧ ∀ e ∈ es, e.key ≠ enc k) ∨ ∃ j e, (Instr.findKey K (enc k) es).run P w = .ok (some (j, e.val)) w ∧ es[j]? = some e ∧ e.key = enc k
  stays : ∀ (w : World) (k : κ), (Instr.keyThatStays (enc k) (enc k)).run P w = .ok (enc k) w
theorem keyOK_int {P : Program} {K : TypeId} (hK : P.underlying K = some (.int .i64)) : KeyOK P K (Value.int .i64) where
  inj := fun h => by injection h
  check := fun w em k => run_checkKey hK (by simp [IsKey]) em 9999
  find := fun w k es hes => by
    have hks : ∀ y ∈ es, IsKey (.int .i64) y.key := fun y hy => by obtain ⟨l, hl⟩ := hes y hy; rw [hl]; simp [IsKey]
    rcases findNow_spec (show IsKey (.int .i64) (.int .i64 k) by simp [IsKey]) es 0 hks with ⟨h1, h2⟩ | ⟨j, e0, h1, h2, h3⟩
    · exact .inl ⟨run_findKey hK h1, h2⟩
    · exact .inr ⟨j, e0, by simpa using run_findKey hK h1, h2, h3⟩
  stays := fun w k => run_keyThatStays (d := .int .i64) (by simp [IsKey])
theorem findAsking_all {P : Program} {K : TypeId} {κ : Type} {enc : κ → Value} (inj : ∀ {a b : κ}, enc a = enc b → a = b) (heq : ∀ (w : World) (a b : κ), ∃ r, (Op.equal K (enc a) (enc b)).run P w = .ok r w ∧ (r = true ↔ a = b)) (w : World) (k : κ) : ∀ (es : List MapEntry) (i : Nat), (∀ e ∈ es, ∃ k', e.key = enc k') →
    ((Instr.findAsking K (enc k) es i).run P w = .ok none w ∧ ∀ e ∈ es, e.key ≠ enc k) ∨ ∃ j e, (Instr.findAsking K (enc k) es i).run P w = .ok (some (i + j, e.val)) w ∧ es[j]? = some e ∧ e.key = enc k := by
  intro es
  induction es with
  | nil => intro i _; exact .inl ⟨rfl, by simp⟩
  | cons e es ih =>
    intro i hes
    obtain ⟨k', hk'⟩ := hes e (by simp)
    obtain ⟨r, hr, hrr⟩ := heq w k k'
    unfold Instr.findAsking
    simp only [Sem.run_bind, hk', hr, Result.andThen]
    cases r with
    | true =>
      refine .inr ⟨0, e, by simp [Sem.run_pure], rfl, ?_⟩
      rw [hk', hrr.1 rfl]
    | false =>
      have hne : k ≠ k' := fun h => by simpa using hrr.2 h
      rcases ih (i + 1) (fun e he => hes e (by simp [he])) with ⟨h1, h2⟩ | ⟨j, e0, h1, h2, h3⟩
      · refine .inl ⟨by simpa using h1, fun x hx => ?_⟩
        rcases List.mem_cons.1 hx with rfl | hx
        · rw [hk']; exact fun h => hne (inj h.symm)
        · exact h2 x hx
      · exact .inr ⟨j + 1, e0, by simpa [Nat.add_assoc, Nat.add_comm 1 j] using h1, by simpa using h2, h3⟩
theorem keyOK_struct {P : Program} {K : TypeId} {κ : Type} {enc : κ → Value} {fs : Array Field} (hK : P.underlying K = some (.struct fs)) (inj : ∀ {a b : κ}, enc a = enc b → a = b)
    (check : ∀ (w : World) (em : Bool) (k : κ), (Instr.checkKey em 10000 K (enc k)).run P w = .ok () w) (heq : ∀ (w : World) (a b : κ), ∃ r, (Op.equal K (enc a) (enc b)).run P w = .ok r w ∧ (r = true ↔ a = b))
    (hsb : ∀ k : κ, Instr.sameBits 10000 (enc k) (enc k) = true) : KeyOK P K enc where
  inj := inj
  check := check
  find := fun w k es hes => by
    cases es with
    | nil => exact .inl ⟨by simp [Instr.findKey, Instr.findNow, run_underlying hK, Result.andThen], by simp⟩
    | cons e es =>
      have hn : Instr.findNow (.struct fs) (enc k) (e :: es) 0 = none := by
        unfold Instr.findNow
        have : Instr.sameNow (.struct fs) (enc k) e.key = none := by unfold Instr.sameNow; rfl
        rw [this]
      have hr : (Instr.findKey K (enc k) (e :: es)).run P w = (Instr.findAsking K (enc k) (e :: es) 0).run P w := by
        simp [Instr.findKey, run_underlying hK, Result.andThen, hn]
      rw [hr]
      rcases findAsking_all inj heq w k (e :: es) 0 hes with h | ⟨j, e0, h1, h2, h3⟩
      · exact .inl h
      · exact .inr ⟨j, e0, by simpa using h1, h2, h3⟩
  stays := fun w k => by simp [Instr.keyThatStays, hsb]
section
variable {κ : Type} [DecidableEq κ]
/-- block b is a map with these entries, in the order in which they came -/
def MapAt (enc : κ → Value) (w : World) (b : Nat) (ms : List (κ × Value)) : Prop :=
  ∃ es clock, w.heap[b]? = some (.map es clock) ∧ es.toList.map (fun e => (e.key, e.val)) = ms.map (fun p => (enc p.1, p.2)) ∧ (ms.map (·.1)).Nodup ∧ (∀ e ∈ es.toList, e.born < clock) ∧ (es.toList.map (·.born)).Nodup
def getK (k : κ) (ms : List (κ × Value)) : Option Value := (ms.find? (fun p => p.1 == k)).map (·.2)
def putK (k : κ) (v : Value) (ms : List (κ × Value)) : List (κ × Value) := if k ∈ ms.map (·.1) then ms.map (fun p => if p.1 = k then (k, v) else p) else ms ++ [(k, v)]
def delK (k : κ) (ms : List (κ × Value)) : List (κ × Value) := ms.filter (fun p => p.1 != k)

section
variable {P : Program} {T K E : TypeId} {enc : κ → Value} {w : World} {b : Nat} {ms : List (κ × Value)}
theorem getK_none {k : κ} (h : k ∉ ms.map (·.1)) : getK k ms = none := by
  unfold getK
  rw [List.find?_eq_none.2 (fun p hp => by simp; exact fun e => h (List.mem_map.2 ⟨p, hp, e⟩))]
  rfl
theorem place_ofK {k : κ} (hn : (ms.map (·.1)).Nodup) (h : k ∈ ms.map (·.1)) : ∃ (j : Nat) (v : Value), ms[j]? = some (k, v) ∧ (∀ l : Nat, l < j → (ms.map (·.1))[l]? ≠ some k) ∧ getK k ms = some v := by
  obtain ⟨p, hp, rfl⟩ := List.mem_map.1 h
  obtain ⟨j, hj, he⟩ := List.getElem_of_mem hp
  have hj2 : ms[j]? = some p := by rw [List.getElem?_eq_getElem hj, he]
  have hd : ∀ l (hl : l < j), (ms[l]'(by omega)).1 ≠ p.1 := fun l hl => by
    have := List.pairwise_iff_getElem.1 hn l j (by rw [List.length_map]; omega) (by rw [List.length_map]; exact hj) hl
    rw [List.getElem_map, List.getElem_map, he] at this
    exact this
  refine ⟨j, p.2, hj2, fun l hl e => ?_, ?_⟩
  · have hl2 : l < ms.length := by omega
    rw [List.getElem?_map, List.getElem?_eq_getElem hl2] at e
    simp at e
    exact hd l hl e
  · unfold getK
    have : ms.find? (fun q => q.1 == p.1) = some p := by
      rw [List.find?_eq_some_iff_getElem]
      exact ⟨by simp, j, hj, he, fun l hl => by simpa using hd l hl⟩
    rw [this]
    rfl
theorem putK_old {k : κ} {j : Nat} {u v : Value} (hn : (ms.map (·.1)).Nodup) (h1 : ms[j]? = some (k, u)) : putK k v ms = ms.set j (k, v) := by
  have hj : j < ms.length := by
    rcases Nat.lt_or_ge j ms.length with h | h
    · exact h
    · rw [List.getElem?_eq_none h] at h1; cases h1
  have he : ms[j] = (k, u) := by rw [List.getElem?_eq_getElem hj] at h1; exact Option.some.inj h1
  have hm : k ∈ ms.map (·.1) := List.mem_map.2 ⟨(k, u), by rw [← he]; exact List.getElem_mem hj, rfl⟩
  unfold putK
  rw [if_pos hm]
  apply List.ext_getElem (by simp)
  intro l hl1 hl2
  have hl : l < ms.length := by simpa using hl1
  rw [List.getElem_map, List.getElem_set]
  by_cases hlj : j = l
  · subst hlj
    rw [if_pos rfl, he]
    simp
  · rw [if_neg hlj, if_neg]
    intro e
    rcases Nat.lt_or_gt_of_ne hlj with h | h
    · have := List.pairwise_iff_getElem.1 hn j l (by simpa using hj) (by simpa using hl) h
      rw [List.getElem_map, List.getElem_map, he] at this
      exact this e.symm
    · have := List.pairwise_iff_getElem.1 hn l j (by simpa using hl) (by simpa using hj) h
      rw [List.getElem_map, List.getElem_map, he] at this
      exact this e
theorem modify_map {α β : Type} (f : α → α) (g : α → β) (b : β) : ∀ (l : List α) (j : Nat), (∀ a, l[j]? = some a → g (f a) = b) → (l.modify j f).map g = (l.map g).set j b := by
  intro l j h
  apply List.ext_getElem?
  intro i
  rw [List.getElem?_map, List.getElem?_modify, List.getElem?_set, List.getElem?_map, List.length_map]
  by_cases hij : j = i
  · subst hij
    cases hl : l[j]? with
    | none =>
      have : ¬ j < l.length := by
        intro hj
        rw [List.getElem?_eq_getElem hj] at hl
        cases hl
      simp [this]
    | some a =>
      have : j < l.length := by
        rcases Nat.lt_or_ge j l.length with h | h
        · exact h
        · rw [List.getElem?_eq_none h] at hl; cases hl
      simp [this, h a hl]
  · simp [hij]
theorem modify_same {α β : Type} (f : α → α) (g : α → β) (h : ∀ a, g (f a) = g a) (l : List α) (j : Nat) : (l.modify j f).map g = l.map g := by
  apply List.ext_getElem?
  intro i
  rw [List.getElem?_map, List.getElem?_modify, List.getElem?_map]
  cases hl : l[i]? with
  | none => simp
  | some a => by_cases hij : j = i <;> simp [hij, h]
theorem find_entry (hK : KeyOK P K enc) {es : Array MapEntry} (he : es.toList.map (fun e => (e.key, e.val)) = ms.map (fun p => (enc p.1, p.2))) (hn : (ms.map (·.1)).Nodup) (w : World) (k : κ) :
    (k ∉ ms.map (·.1) → (Instr.findKey K (enc k) es.toList).run P w = .ok none w) ∧ ∀ (j : Nat) (v : Value), ms[j]? = some (k, v) → (Instr.findKey K (enc k) es.toList).run P w = .ok (some (j, v)) w := by
  have at_ : ∀ (j : Nat) (e : MapEntry), es.toList[j]? = some e → ∃ p, ms[j]? = some p ∧ e.key = enc p.1 ∧ e.val = p.2 := fun j e h => by
    have := congrArg (fun l => l[j]?) he
    simp only [List.getElem?_map, h] at this
    cases hm : ms[j]? with
    | none => simp [hm] at this
    | some p => simp [hm] at this; exact ⟨p, rfl, this.1, this.2⟩
  have all : ∀ e ∈ es.toList, ∃ k', e.key = enc k' := fun e hem => by
    obtain ⟨j, hj⟩ := List.getElem?_of_mem hem
    obtain ⟨p, _, h, _⟩ := at_ j e hj
    exact ⟨p.1, h⟩
  rcases hK.find w k es.toList all with ⟨h1, h2⟩ | ⟨j, e, h1, h2, h3⟩
  · refine ⟨fun _ => h1, fun j v hj => ?_⟩
    exfalso
    have := congrArg (fun l => l[j]?) he
    simp only [List.getElem?_map, hj] at this
    cases hm : es.toList[j]? with
    | none => rw [hm] at this; simp at this
    | some e =>
      rw [hm] at this
      simp at this
      exact h2 e (List.mem_of_getElem? hm) this.1
  · obtain ⟨p, hp, hk, hv⟩ := at_ j e h2
    have hpk : p.1 = k := hK.inj (hk.symm.trans h3)
    refine ⟨fun hnk => absurd (List.mem_map.2 ⟨p, List.mem_of_getElem? hp, hpk⟩) hnk, fun j' v hj' => ?_⟩
    have e1 : (ms.map (·.1))[j]? = some k := by rw [List.getElem?_map, hp]; simp [hpk]
    have e2 : (ms.map (·.1))[j']? = some k := by rw [List.getElem?_map, hj']; rfl
    have hjj : j = j' := by
      have l1 : j < (ms.map (·.1)).length := by
        rcases Nat.lt_or_ge j (ms.map (·.1)).length with h | h
        · exact h
        · rw [List.getElem?_eq_none h] at e1; cases e1
      have l2 : j' < (ms.map (·.1)).length := by
        rcases Nat.lt_or_ge j' (ms.map (·.1)).length with h | h
        · exact h
        · rw [List.getElem?_eq_none h] at e2; cases e2
      rw [List.getElem?_eq_getElem l1] at e1
      rw [List.getElem?_eq_getElem l2] at e2
      have ee := (Option.some.inj e1).trans (Option.some.inj e2).symm
      rcases Nat.lt_trichotomy j j' with h | h | h
      · exact absurd ee (List.pairwise_iff_getElem.1 hn j j' l1 l2 h)
      · exact h
      · exact absurd ee.symm (List.pairwise_iff_getElem.1 hn j' j l2 l1 h)
    subst hjj
    rw [hp] at hj'
    have : p = (k, v) := Option.some.inj hj'
    rw [h1, hv, this]
theorem run_lookK (hT : P.underlying T = some (.map K E)) (hK : KeyOK P K enc) {z : Value} (hz : (zeroValue E).run P w = .ok z w) (h : MapAt enc w b ms) (k : κ) :
    (Instr.lookup T (.map (some b)) (enc k) false).run P w = .ok ((getK k ms).getD z) w := by
  obtain ⟨es, clock, hb, he, hn, _⟩ := h
  unfold Instr.lookup
  simp only [Sem.run_bind, run_underlying hT, Result.andThen, Go.MapKept.run_getObj_map hb, hK.check, Sem.run_pure]
  by_cases hm : k ∈ ms.map (·.1)
  · obtain ⟨j, v, h1, h2, h3⟩ := place_ofK hn hm
    have hf := (find_entry hK he hn w k).2 j v h1
    simp only [hf, Sem.run_pure, h3]
    rfl
  · have hf := (find_entry hK he hn w k).1 hm
    simp only [hf, Sem.run_bind, hz, Result.andThen, Sem.run_pure, getK_none hm]
    rfl
theorem run_putK (hT : P.underlying T = some (.map K E)) (hK : KeyOK P K enc) (h : MapAt enc w b ms) (k : κ) (v : Value) :
    ∃ w', (Instr.mapUpdate T (.map (some b)) (enc k) v).run P w = .ok () w' ∧ MapAt enc w' b (putK k v ms) ∧ Fr (fun x => x = b) w w' := by
  obtain ⟨es, clock, hb, he, hn, h4, h5⟩ := h
  have hbl : b < w.heap.size := by
    rcases Nat.lt_or_ge b w.heap.size with h | h
    · exact h
    · rw [Array.getElem?_eq_none h] at hb; cases hb
  have frame : ∀ o, Fr (fun x => x = b) w { w with heap := w.heap.setIfInBounds b o } := fun o => ⟨rfl, rfl, rfl, by simp, fun x hx hs => by
    have e : ¬ b = x := fun e => hs e.symm
    simp [Array.getElem?_setIfInBounds, e]⟩
  unfold Instr.mapUpdate
  simp only [Sem.run_bind, run_underlying hT, Result.andThen, Go.MapKept.run_getObj_map hb, hK.check, Sem.run_pure]
  by_cases hm : k ∈ ms.map (·.1)
  · obtain ⟨j, u, h1, h2, h3⟩ := place_ofK hn hm
    have hf := (find_entry hK he hn w k).2 j u h1
    have hkey : ((es[j]?).map (·.key)).getD (enc k) = enc k := by
      have := congrArg (fun l => l[j]?) he
      simp only [List.getElem?_map, h1] at this
      cases hj : es[j]? with
      | none => rfl
      | some e =>
        rw [Array.getElem?_toList, hj] at this
        simp at this
        simp [this.1]
    simp only [hf, hkey, hK.stays, Sem.run_bind, Result.andThen]
    rw [Go.MapKept.run_setObj_map _ hb]
    have hb1 := modify_same (fun e : MapEntry => { e with key := enc k, val := v }) (·.born) (fun _ => rfl) es.toList j
    refine ⟨_, rfl, ⟨es.modify j (fun e => { e with key := enc k, val := v }), clock, by simp [hbl], ?_, ?_, ?_, ?_⟩, frame _⟩
    · rw [Array.toList_modify, modify_map (fun e : MapEntry => { e with key := enc k, val := v }) (fun e => (e.key, e.val)) (enc k, v) _ _ (fun _ _ => rfl), he, putK_old hn h1, List.map_set]
    · rw [putK_old hn h1, List.map_set]
      have : (ms.map (·.1)).set j k = ms.map (·.1) := by
        apply List.ext_getElem?
        intro i
        rw [List.getElem?_set]
        by_cases hij : j = i
        · subst hij
          rw [List.getElem?_map, h1, List.length_map]
          have : j < ms.length := by
            rcases Nat.lt_or_ge j ms.length with h | h
            · exact h
            · rw [List.getElem?_eq_none h] at h1; cases h1
          simp [this]
        · simp [hij]
      dsimp only
      rw [this]
      exact hn
    · intro e hem
      rw [Array.toList_modify] at hem
      have : e.born ∈ (es.toList.map (·.born)) := by rw [← hb1]; exact List.mem_map.2 ⟨e, hem, rfl⟩
      obtain ⟨e0, h0, h00⟩ := List.mem_map.1 this
      rw [← h00]
      exact h4 e0 h0
    · rw [Array.toList_modify, hb1]
      exact h5
  · have hf := (find_entry hK he hn w k).1 hm
    simp only [hf]
    rw [Go.MapKept.run_setObj_map _ hb]
    refine ⟨_, rfl, ⟨es.push { key := enc k, val := v, born := clock }, clock + 1, by simp [hbl], ?_, ?_, ?_, ?_⟩, frame _⟩
    · unfold putK
      rw [if_neg hm, Array.toList_push, List.map_append, List.map_append, he]
      rfl
    · unfold putK
      rw [if_neg hm, List.map_append, List.nodup_append]
      refine ⟨hn, by simp, ?_⟩
      intro a ha b' hb'
      simp at hb'
      subst hb'
      exact fun e => hm (e ▸ ha)
    · intro e hem
      rw [Array.toList_push, List.mem_append, List.mem_singleton] at hem
      rcases hem with hem | rfl
      · have := h4 e hem
        omega
      · show clock < clock + 1
        omega
    · rw [Array.toList_push, List.map_append, List.nodup_append]
      refine ⟨h5, by simp, ?_⟩
      intro a ha b' hb'
      simp at hb'
      subst hb'
      obtain ⟨e0, h0, h00⟩ := List.mem_map.1 ha
      have := h4 e0 h0
      intro e
      omega
theorem delK_place {k : κ} {j : Nat} {u : Value} (hn : (ms.map (·.1)).Nodup) (h1 : ms[j]? = some (k, u)) : delK k ms = ms.eraseIdx j := by
  have hj : j < ms.length := by
    rcases Nat.lt_or_ge j ms.length with h | h
    · exact h
    · rw [List.getElem?_eq_none h] at h1; cases h1
  have he : ms[j] = (k, u) := by rw [List.getElem?_eq_getElem hj] at h1; exact Option.some.inj h1
  have hs : ms = ms.take j ++ (k, u) :: ms.drop (j + 1) := by
    rw [← he, ← List.drop_eq_getElem_cons hj, List.take_append_drop]
  have hn2 := hn
  rw [hs, List.map_append, List.map_cons, List.nodup_append] at hn2
  have hk1 : ∀ p ∈ ms.take j, p.1 ≠ k := fun p hp => hn2.2.2 p.1 (List.mem_map.2 ⟨p, hp, rfl⟩) k (by simp)
  have hk2 : ∀ p ∈ ms.drop (j + 1), p.1 ≠ k := fun p hp e => (List.nodup_cons.1 hn2.2.1).1 (List.mem_map.2 ⟨p, hp, e⟩)
  rw [List.eraseIdx_eq_take_drop_succ]
  unfold delK
  conv => lhs; rw [hs]
  rw [List.filter_append, List.filter_cons, if_neg (by simp), List.filter_eq_self.2 (fun p hp => by simpa using hk1 p hp), List.filter_eq_self.2 (fun p hp => by simpa using hk2 p hp)]
theorem delK_none {k : κ} (h : k ∉ ms.map (·.1)) : delK k ms = ms := by
  unfold delK
  exact List.filter_eq_self.2 (fun p hp => by simp; exact fun e => h (List.mem_map.2 ⟨p, hp, e⟩))
theorem eraseIdx_map {α β : Type} (g : α → β) (l : List α) (j : Nat) : (l.eraseIdx j).map g = (l.map g).eraseIdx j := by
  rw [List.eraseIdx_eq_take_drop_succ, List.eraseIdx_eq_take_drop_succ, List.map_append, List.map_take, List.map_drop]
theorem run_delK {ty : TypeId} (hT : P.underlying T = some (.map K E)) (hK : KeyOK P K enc) (h : MapAt enc w b ms) (k : κ) :
    ∃ w', (Builtin.delete_ #[T, K] ty #[.map (some b), enc k]).run P w = .ok (.tuple #[]) w' ∧ MapAt enc w' b (delK k ms) ∧ Fr (fun x => x = b) w w' := by
  obtain ⟨es, clock, hb, he, hn, h4, h5⟩ := h
  have hbl : b < w.heap.size := by
    rcases Nat.lt_or_ge b w.heap.size with h | h
    · exact h
    · rw [Array.getElem?_eq_none h] at hb; cases hb
  have frame : ∀ o, Fr (fun x => x = b) w { w with heap := w.heap.setIfInBounds b o } := fun o => ⟨rfl, rfl, rfl, by simp, fun x hx hs => by
    have e : ¬ b = x := fun e => hs e.symm
    simp [Array.getElem?_setIfInBounds, e]⟩
  unfold Builtin.delete_
  simp only [List.getElem?_toArray, List.getElem?_cons_zero, List.getElem?_cons_succ, Sem.run_bind, run_underlying hT, Result.andThen, Go.MapKept.run_getObj_map hb, hK.check, Sem.run_pure]
  by_cases hm : k ∈ ms.map (·.1)
  · obtain ⟨j, u, h1, h2, h3⟩ := place_ofK hn hm
    have hf := (find_entry hK he hn w k).2 j u h1
    simp only [hf, Nat.zero_add]
    rw [Sem.run_bind, Go.MapKept.run_setObj_map _ hb]
    refine ⟨_, rfl, ⟨es.eraseIdxIfInBounds j, clock, by simp [hbl], ?_, ?_, ?_, ?_⟩, frame _⟩
    · rw [Array.toList_eraseIdxIfInBounds, eraseIdx_map, he, delK_place hn h1, eraseIdx_map]
    · rw [delK_place hn h1, eraseIdx_map]
      exact hn.sublist (List.eraseIdx_sublist _ _)
    · intro e hem
      rw [Array.toList_eraseIdxIfInBounds] at hem
      exact h4 e ((List.eraseIdx_sublist _ _).subset hem)
    · rw [Array.toList_eraseIdxIfInBounds, eraseIdx_map]
      exact h5.sublist (List.eraseIdx_sublist _ _)
  · have hf := (find_entry hK he hn w k).1 hm
    simp only [hf]
    rw [Sem.run_bind, Go.MapKept.run_setObj_map _ hb]
    exact ⟨_, rfl, ⟨es, clock, by simp [hbl], by rw [delK_none hm]; exact he, by rw [delK_none hm]; exact hn, h4, h5⟩, frame _⟩
theorem run_lenK {ty : TypeId} (hT : P.underlying T = some (.map K E)) (h : MapAt enc w b ms) : (Builtin.len_ #[T] ty #[.map (some b)]).run P w = .ok (.int .i64 ms.length) w := by
  obtain ⟨es, clock, hb, he, hn, h4, h5⟩ := h
  have hs : es.size = ms.length := by
    have := congrArg List.length he
    simpa using this
  unfold Builtin.len_
  simp only [List.getElem?_toArray, List.getElem?_cons_zero, Sem.run_bind, run_underlying hT, Result.andThen, Go.MapKept.run_getObj_map hb, Sem.run_pure, hs]
  rfl
theorem MapAt.keep {w' : World} {S : Nat → Prop} (h : MapAt enc w b ms) (hf : Fr S w w') (hS : ¬ S b) : MapAt enc w' b ms := by
  obtain ⟨es, clock, hb, he⟩ := h
  have hbl : b < w.heap.size := by
    rcases Nat.lt_or_ge b w.heap.size with h | h
    · exact h
    · rw [Array.getElem?_eq_none h] at hb; cases hb
  exact ⟨es, clock, (hf.block b hbl hS).trans hb, he⟩
theorem MapAt.new (w : World) : MapAt enc (w.alloc (.map #[] 0)) w.heap.size [] := ⟨#[], 0, heap_alloc_new w _, rfl, by simp, by simp, by simp⟩
theorem MapAt.nodup (h : MapAt enc w b ms) : (ms.map (·.1)).Nodup := by
  obtain ⟨_, _, _, _, hn, _⟩ := h
  exact hn
end
/-! ## what a map comes to -/
section
variable {ms : List (κ × Value)}
theorem getK_put_same (k : κ) (v : Value) (hn : (ms.map (·.1)).Nodup) : getK k (putK k v ms) = some v := by
  by_cases hm : k ∈ ms.map (·.1)
  · obtain ⟨j, u, h1, h2, h3⟩ := place_ofK hn hm
    unfold putK
    rw [if_pos hm]
    unfold getK
    rw [List.find?_map]
    obtain ⟨p, hp, he⟩ := List.mem_map.1 hm
    have : ms.find? ((fun p : κ × Value => p.1 == k) ∘ fun p => if p.1 = k then (k, v) else p) = ms.find? (fun p => p.1 == k) := by
      congr 1
      funext p
      by_cases hp : p.1 = k <;> simp [hp]
    rw [this]
    unfold getK at h3
    cases hf : ms.find? (fun p => p.1 == k) with
    | none => rw [hf] at h3; cases h3
    | some q =>
      have hq := List.find?_some hf
      simp at hq
      simp [hq]
  · unfold putK
    rw [if_neg hm]
    unfold getK
    rw [List.find?_append, List.find?_eq_none.2 (fun p hp => by simp; exact fun e => hm (List.mem_map.2 ⟨p, hp, e⟩))]
    simp
theorem getK_put_other {k k' : κ} (v : Value) (h : k' ≠ k) : getK k' (putK k v ms) = getK k' ms := by
  unfold putK
  split
  · unfold getK
    rw [List.find?_map]
    have : ms.find? ((fun p : κ × Value => p.1 == k') ∘ fun p => if p.1 = k then (k, v) else p) = ms.find? (fun p => p.1 == k') := by
      congr 1
      funext p
      by_cases hp : p.1 = k
      · simp [hp]
      · simp [hp]
    rw [this]
    cases hf : ms.find? (fun p => p.1 == k') with
    | none => rfl
    | some q =>
      have hq := List.find?_some hf
      simp at hq
      simp [hq, h]
  · unfold getK
    rw [List.find?_append]
    have : ([(k, v)] : List (κ × Value)).find? (fun p => p.1 == k') = none := by simp; exact fun e => h e.symm
    rw [this]
    simp
theorem getK_del_same (k : κ) : getK k (delK k ms) = none := getK_none (by unfold delK; simp)
theorem getK_del_other {k k' : κ} (h : k' ≠ k) : getK k' (delK k ms) = getK k' ms := by
  unfold getK delK
  rw [List.find?_filter]
  congr 2
  funext p
  by_cases hp : p.1 = k'
  · simp [hp, h]
  · simp [hp]
theorem mem_put (k : κ) (v : Value) (k' : κ) : k' ∈ (putK k v ms).map (·.1) ↔ k' = k ∨ k' ∈ ms.map (·.1) := by
  unfold putK
  split
  · rename_i hm
    rw [List.map_map]
    constructor
    · intro h
      obtain ⟨p, hp, he⟩ := List.mem_map.1 h
      by_cases hpk : p.1 = k
      · simp [hpk] at he; exact .inl he.symm
      · simp [hpk] at he; exact .inr (List.mem_map.2 ⟨p, hp, he⟩)
    · intro h
      rcases h with rfl | h
      · obtain ⟨p, hp, he⟩ := List.mem_map.1 hm
        exact List.mem_map.2 ⟨p, hp, by simp [he]⟩
      · obtain ⟨p, hp, he⟩ := List.mem_map.1 h
        refine List.mem_map.2 ⟨p, hp, ?_⟩
        by_cases hpk : p.1 = k
        · simp [hpk, ← he]
        · simp only [Function.comp, if_neg hpk]; exact he
  · simp [or_comm]
end
/-! ## a lookup that tells whether; a range over the map -/
section
variable {P : Program} {T K E : TypeId} {enc : κ → Value} {w : World} {r b : Nat} {ms left : List (κ × Value)}
theorem run_look2 (hT : P.underlying T = some (.map K E)) (hK : KeyOK P K enc) {z : Value} (hz : (zeroValue E).run P w = .ok z w) (h : MapAt enc w b ms) (k : κ) :
    (Instr.lookup T (.map (some b)) (enc k) true).run P w = .ok (.tuple #[(getK k ms).getD z, .bool (getK k ms).isSome]) w := by
  obtain ⟨es, clock, hb, he, hn, _⟩ := h
  unfold Instr.lookup
  simp only [Sem.run_bind, run_underlying hT, Result.andThen, Go.MapKept.run_getObj_map hb, hK.check, Sem.run_pure]
  by_cases hm : k ∈ ms.map (·.1)
  · obtain ⟨j, v, h1, h2, h3⟩ := place_ofK hn hm
    have hf := (find_entry hK he hn w k).2 j v h1
    simp only [hf, Sem.run_pure, h3]
    rfl
  · have hf := (find_entry hK he hn w k).1 hm
    simp only [hf, Sem.run_bind, hz, Result.andThen, Sem.run_pure, getK_none hm]
    rfl
/-- an iterator in block r over the map in block b: what it has not handed out yet is left -/
def IterAt (enc : κ → Value) (w : World) (r b : Nat) (ms left : List (κ × Value)) : Prop :=
  ∃ (es : Array MapEntry) (clock since : Nat) (seen : Array Nat) (c0 : Nat), w.heap[r]? = some (.mapIter (some b) since seen c0) ∧ w.heap[b]? = some (.map es clock) ∧ es.toList.map (fun e => (e.key, e.val)) = ms.map (fun p => (enc p.1, p.2)) ∧ (ms.map (·.1)).Nodup ∧ (∀ e ∈ es.toList, e.born < clock) ∧ (es.toList.map (·.born)).Nodup ∧
    (∀ e ∈ es.toList, e.born < since) ∧ since ≤ c0 ∧ since ≤ clock ∧ (leftOf es seen).toList.map (fun e => (e.key, e.val)) = left.map (fun p => (enc p.1, p.2))
theorem IterAt.map (h : IterAt enc w r b ms left) : MapAt enc w b ms := by
  obtain ⟨es, clock, since, seen, c0, hr, hb, he, hn, h4, h5, h6, h7, h8, h9⟩ := h
  exact ⟨es, clock, hb, he, hn, h4, h5⟩
theorem run_rangeK (hT : P.underlying T = some (.map K E)) (h : MapAt enc w b ms) :
    ∃ it, (Instr.range T (.map (some b))).run P w = .ok (.pointer (some ⟨w.heap.size, 0, none⟩)) (w.alloc it) ∧ IterAt enc (w.alloc it) w.heap.size b ms ms := by
  obtain ⟨es, clock, hb, he, hn, h4, h5⟩ := h
  have hbl : b < w.heap.size := by
    rcases Nat.lt_or_ge b w.heap.size with h | h
    · exact h
    · rw [Array.getElem?_eq_none h] at hb; cases hb
  refine ⟨.mapIter (some b) clock #[] clock, ?_, es, clock, clock, #[], clock, heap_alloc_new _ _, (Below.heap_alloc w _ b hbl).trans hb, he, hn, h4, h5, h4, Nat.le_refl _, Nat.le_refl _, ?_⟩
  · unfold Instr.range
    simp only [Sem.run_bind, run_underlying hT, Result.andThen, Go.MapKept.run_getObj_map hb, Sem.run_pure]
    rfl
  · have : leftOf es #[] = es := by
      unfold leftOf
      exact Array.filter_eq_self.2 (by simp)
    rw [this]
    exact he
end
section
variable {P : Program} {T K E : TypeId} {enc : κ → Value} {w w' : World} {r b : Nat} {ms left : List (κ × Value)}
theorem lt_of_some {o : Obj} {i : Nat} (h : w.heap[i]? = some o) : i < w.heap.size := by
  rcases Nat.lt_or_ge i w.heap.size with h' | h'
  · exact h'
  · rw [Array.getElem?_eq_none h'] at h; cases h
theorem IterAt.lt (h : IterAt enc w r b ms left) : r < w.heap.size ∧ b < w.heap.size ∧ r ≠ b := by
  obtain ⟨es, clock, since, seen, c0, hr, hb, _⟩ := h
  refine ⟨lt_of_some hr, lt_of_some hb, ?_⟩
  rintro rfl
  rw [hr] at hb
  cases hb
theorem IterAt.keep {S : Nat → Prop} (h : IterAt enc w r b ms left) (hf : Fr S w w') (h1 : ¬ S r) (h2 : ¬ S b) : IterAt enc w' r b ms left := by
  obtain ⟨l1, l2, _⟩ := h.lt
  obtain ⟨es, clock, since, seen, c0, hr, hb, hx⟩ := h
  exact ⟨es, clock, since, seen, c0, (hf.block r l1 h1).trans hr, (hf.block b l2 h2).trans hb, hx⟩
theorem same_of_nodup {α β : Type} (f : α → β) : ∀ (l : List α), (l.map f).Nodup → ∀ x ∈ l, ∀ y ∈ l, f x = f y → x = y
  | [], _, x, hx, _, _, _ => by simp at hx
  | a :: l, hn, x, hx, y, hy, he => by
    rw [List.map_cons, List.nodup_cons] at hn
    rcases List.mem_cons.1 hx with hxa | hx' <;> rcases List.mem_cons.1 hy with hya | hy'
    · exact hxa.trans hya.symm
    · exact absurd (List.mem_map.2 ⟨y, hy', by rw [← he, hxa]⟩) hn.1
    · exact absurd (List.mem_map.2 ⟨x, hx', by rw [he, hya]⟩) hn.1
    · exact same_of_nodup f l hn.2 x hx' y hy' he
theorem filter_two {α β γ : Type} (f : α → γ) (g : β → γ) (c : α → Bool) (d : β → Bool) : ∀ (l : List α) (m : List β), l.map f = m.map g → (∀ x ∈ l, ∀ q ∈ m, f x = g q → c x = d q) → (l.filter c).map f = (m.filter d).map g
  | [], [], _, _ => rfl
  | [], q :: m, h, _ => by simp at h
  | x :: l, [], h, _ => by simp at h
  | x :: l, q :: m, h, hc => by
    simp only [List.map_cons, List.cons.injEq] at h
    have e := hc x (by simp) q (by simp) h.1
    have ih := filter_two f g c d l m h.2 (fun x hx q hq => hc x (by simp [hx]) q (by simp [hq]))
    rw [List.filter_cons, List.filter_cons, e]
    split
    · rw [List.map_cons, List.map_cons, ih, h.1]
    · exact ih
theorem keys_nodup (hK : KeyOK P K enc) {es : Array MapEntry} (he : es.toList.map (fun e => (e.key, e.val)) = ms.map (fun p => (enc p.1, p.2))) (hn : (ms.map (·.1)).Nodup) : (es.toList.map (·.key)).Nodup := by
  have e1 : es.toList.map (·.key) = (ms.map (·.1)).map enc := by
    have := congrArg (List.map Prod.fst) he
    rw [List.map_map, List.map_map] at this
    rw [List.map_map]
    exact this
  rw [e1]
  exact List.pairwise_map.2 (hn.imp (fun h e => h (hK.inj e)))
theorem IterAt.step (hK : KeyOK P K enc) (ty : TypeId) (h : IterAt enc w r b ms left) :
    (left = [] ∧ (Instr.next (.pointer (some ⟨r, 0, none⟩)) false ty).run P w = .ok (.tuple #[.bool false]) w) ∨
    ∃ p ∈ left, ∃ w', (Instr.next (.pointer (some ⟨r, 0, none⟩)) false ty).run P w = .ok (.tuple #[.bool true, enc p.1, p.2]) w' ∧ (Instr.entry (.pointer (some ⟨r, 0, none⟩))).run P w' = .ok (.tuple #[enc p.1, p.2]) w' ∧
      IterAt enc w' r b ms (left.filter (fun q => decide (q.1 ≠ p.1))) ∧ Fr (fun x => x = r) w w' := by
  obtain ⟨hlr, hlb, hrb⟩ := h.lt
  obtain ⟨es, clock, since, seen, c0, hr, hb, he, hn, h4, h5, h6, h7, h8, h9⟩ := h
  rcases run_next_at (P := P) w ty r b since c0 seen es clock hr hb h6 h7 with ⟨h0, hrun⟩ | ⟨e, hem, w1, hw1, hrun⟩
  · refine .inl ⟨?_, hrun⟩
    have : (leftOf es seen).toList = [] := by
      apply List.eq_nil_of_length_eq_zero
      simpa using h0
    rw [this] at h9
    cases left with
    | nil => rfl
    | cons a t => simp at h9
  · right
    have hpm : (e.key, e.val) ∈ left.map (fun p => (enc p.1, p.2)) := by rw [← h9]; exact List.mem_map.2 ⟨e, hem, rfl⟩
    obtain ⟨p, hp, hpe⟩ := List.mem_map.1 hpm
    simp only [Prod.mk.injEq] at hpe
    obtain ⟨hpk, hpv⟩ := hpe
    have hee : e ∈ es.toList := by
      have := hem
      unfold leftOf at this
      simp at this
      simpa using this.1
    have hw1h : w1.heap = w.heap := by rcases hw1 with rfl | rfl <;> rfl
    have hfr1 : Fr (fun x => x = r) w w1 := by
      rcases hw1 with rfl | rfl
      · exact Fr.refl _ _
      · exact (Fr.refl _ _).drew
    have hr2 : (Go.ChangeMaps.setBlock w1 r (.mapIter (some b) since (seen.push e.born) clock)).heap[r]? = some (.mapIter (some b) since (seen.push e.born) clock) := by
      unfold Go.ChangeMaps.setBlock
      simp [hw1h, hlr]
    have hb2 : (Go.ChangeMaps.setBlock w1 r (.mapIter (some b) since (seen.push e.born) clock)).heap[b]? = some (.map es clock) := by
      unfold Go.ChangeMaps.setBlock
      simp [hw1h, Array.getElem?_setIfInBounds, hrb, hb]
    refine ⟨p, hp, _, by rw [hrun, hpk, hpv], ?_, ⟨es, clock, since, seen.push e.born, clock, hr2, hb2, he, hn, h4, h5, h6, h8, h8, ?_⟩, ?_⟩
    · rw [hpk, hpv]
      exact run_entry_at _ r b since seen es clock e hr2 hb2 hee h5
    · have e1 : (leftOf es (seen.push e.born)).toList = (leftOf es seen).toList.filter (fun x => x.born != e.born) := by
        unfold leftOf
        rw [Array.toList_filter, Array.toList_filter, List.filter_filter]
        congr 1
        funext x
        by_cases hxb : x.born = e.born <;> simp [Array.contains_push, Bool.and_comm, hxb]
      rw [e1]
      refine filter_two _ _ _ _ _ _ h9 (fun x hx q hq hxq => ?_)
      simp only [Prod.mk.injEq] at hxq
      have hxe : x ∈ es.toList := by
        have := hx
        unfold leftOf at this
        simp at this
        simpa using this.1
      by_cases hq1 : q.1 = p.1
      · have : x = e := same_of_nodup (·.key) es.toList (keys_nodup hK he hn) x hxe e hee (by rw [hxq.1, hq1, hpk])
        simp [this, hq1]
      · have : x.born ≠ e.born := fun hbb => by
          have := same_of_nodup (·.born) es.toList h5 x hxe e hee hbb
          subst this
          exact hq1 (hK.inj (hxq.1.symm.trans hpk.symm))
        simp [this, hq1]
    · refine hfr1.trans (show Fr (fun x => x = r) w1 _ from ⟨rfl, rfl, rfl, by simp [Go.ChangeMaps.setBlock], fun x hx hs => ?_⟩) (fun x _ h => h)
      have e : ¬ r = x := fun e => hs e.symm
      simp [Go.ChangeMaps.setBlock, Array.getElem?_setIfInBounds, e]
theorem filter_erase {α : Type} (c : α → Bool) : ∀ (l : List α) (j : Nat), (∀ x, l[j]? = some x → c x = false) → (l.eraseIdx j).filter c = l.filter c
  | [], _, _ => by simp
  | a :: l, 0, h => by simp [h a rfl]
  | a :: l, j + 1, h => by
    rw [List.eraseIdx_cons_succ, List.filter_cons, List.filter_cons, filter_erase c l j (fun x hx => h x (by simpa using hx))]
theorem IterAt.del {ty : TypeId} (hT : P.underlying T = some (.map K E)) (hK : KeyOK P K enc) (h : IterAt enc w r b ms left) (k : κ) (hk : k ∉ left.map (·.1)) :
    ∃ w', (Builtin.delete_ #[T, K] ty #[.map (some b), enc k]).run P w = .ok (.tuple #[]) w' ∧ IterAt enc w' r b (delK k ms) left ∧ Fr (fun x => x = b) w w' := by
  obtain ⟨hlr, hlb, hrb⟩ := h.lt
  obtain ⟨es, clock, since, seen, c0, hr, hb, he, hn, h4, h5, h6, h7, h8, h9⟩ := h
  have frame : ∀ o, Fr (fun x => x = b) w { w with heap := w.heap.setIfInBounds b o } := fun o => ⟨rfl, rfl, rfl, by simp, fun x hx hs => by
    have e : ¬ b = x := fun e => hs e.symm
    simp [Array.getElem?_setIfInBounds, e]⟩
  have keepR : ∀ o, ({ w with heap := w.heap.setIfInBounds b o } : World).heap[r]? = w.heap[r]? := fun o => by
    have e : ¬ b = r := fun e => hrb e.symm
    simp [Array.getElem?_setIfInBounds, e]
  unfold Builtin.delete_
  simp only [List.getElem?_toArray, List.getElem?_cons_zero, List.getElem?_cons_succ, Sem.run_bind, run_underlying hT, Result.andThen, Go.MapKept.run_getObj_map hb, hK.check, Sem.run_pure]
  by_cases hm : k ∈ ms.map (·.1)
  · obtain ⟨j, u, h1, h2, h3⟩ := place_ofK hn hm
    have hf := (find_entry hK he hn w k).2 j u h1
    simp only [hf]
    rw [Sem.run_bind, Go.MapKept.run_setObj_map _ hb]
    refine ⟨_, rfl, ⟨es.eraseIdxIfInBounds j, clock, since, seen, c0, (keepR _).trans hr, by simp [hlb], ?_, ?_, ?_, ?_, ?_, h7, h8, ?_⟩, frame _⟩
    · rw [Array.toList_eraseIdxIfInBounds, eraseIdx_map, he, delK_place hn h1, eraseIdx_map]
    · rw [delK_place hn h1, eraseIdx_map]
      exact hn.sublist (List.eraseIdx_sublist _ _)
    · intro e hem
      rw [Array.toList_eraseIdxIfInBounds] at hem
      exact h4 e ((List.eraseIdx_sublist _ _).subset hem)
    · rw [Array.toList_eraseIdxIfInBounds, eraseIdx_map]
      exact h5.sublist (List.eraseIdx_sublist _ _)
    · intro e hem
      rw [Array.toList_eraseIdxIfInBounds] at hem
      exact h6 e ((List.eraseIdx_sublist _ _).subset hem)
    · have e1 : (leftOf (es.eraseIdxIfInBounds j) seen).toList = (leftOf es seen).toList := by
        unfold leftOf
        rw [Array.toList_filter, Array.toList_filter, Array.toList_eraseIdxIfInBounds]
        refine filter_erase _ _ _ (fun x hx => ?_)
        have hxk : x.key = enc k := by
          have := congrArg (fun l => l[j]?) he
          simp only [List.getElem?_map, hx, h1] at this
          simp at this
          exact this.1
        cases hc : (!seen.contains x.born) with
        | false => rfl
        | true =>
          exfalso
          have hxl : x ∈ (leftOf es seen).toList := by
            unfold leftOf
            rw [Array.toList_filter, List.mem_filter]
            exact ⟨List.mem_of_getElem? hx, hc⟩
          have : (x.key, x.val) ∈ left.map (fun p => (enc p.1, p.2)) := by rw [← h9]; exact List.mem_map.2 ⟨x, hxl, rfl⟩
          obtain ⟨p, hp, hpe⟩ := List.mem_map.1 this
          simp only [Prod.mk.injEq] at hpe
          exact hk (List.mem_map.2 ⟨p, hp, hK.inj (hpe.1.trans hxk)⟩)
      rw [e1]
      exact h9
  · have hf := (find_entry hK he hn w k).1 hm
    simp only [hf]
    rw [Sem.run_bind, Go.MapKept.run_setObj_map _ hb]
    exact ⟨_, rfl, ⟨es, clock, since, seen, c0, (keepR _).trans hr, by simp [hlb], by rw [delK_none hm]; exact he, by rw [delK_none hm]; exact hn, h4, h5, h6, h7, h8, h9⟩, frame _⟩
end
end
end Go.Proofs.Ytfmoagpfgkokcaa
