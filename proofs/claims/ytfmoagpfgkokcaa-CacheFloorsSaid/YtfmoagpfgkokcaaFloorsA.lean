import Derived.Test.YtfmoagpfgkokcaaCacheK
/-! CacheFloors' plain law: what the puts leave, what a revocation takes. -/
namespace Go.Proofs.Ytfmoagpfgkokcaa
open Go.RowKit
set_option linter.unusedVariables false
set_option linter.unusedSimpArgs false

/-- the same entry, its needs elsewhere -/
structure Like (e e' : Ev) : Prop where
  ver : e'.ver = e.ver
  ep : e'.ep = e.ep
  till : e'.till = e.till
  fn : e'.fn = e.fn
  regs : e'.regs = e.regs
  needs : e'.needs = e.needs
theorem Like.mk_ (e : Ev) (v : Value) : Like e ⟨e.ver, e.ep, e.till, e.fn, e.regs, e.needs, v⟩ := ⟨rfl, rfl, rfl, rfl, rfl, rfl⟩
theorem Like.under {e e' : Ev} (h : Like e e') (p : Int × Int) : underB e' p = underB e p := by unfold underB; rw [h.ep, h.fn, h.needs]
theorem Like.rest {e e' : Ev} {k : K2} (h : Like e e') (fn ep : Int) : restE fn ep (k, e') = underB e (fn, ep) := by
  unfold restE underB
  rw [← h.ep, ← h.fn, ← h.needs]
/-- the cache holds just those of L that are kept, the j-th as version j -/
structure Holds_ (L : List Ev) (keep : Ev → Bool) (ms : List (K2 × Ev)) : Prop where
  from_ : ∀ p ∈ ms, ∃ (j : Nat) (e : Ev), L[j]? = some e ∧ p.1 = ((j : Int), e.fn) ∧ Like e p.2 ∧ keep e = true
  to_ : ∀ (j : Nat) (e : Ev), L[j]? = some e → keep e = true → ∃ e', (((j : Int), e.fn), e') ∈ ms ∧ Like e e'
  nodup : (ms.map (·.1)).Nodup
theorem getE_of_mem {k : K2} {e : Ev} {ms : List (K2 × Ev)} (hn : (ms.map (·.1)).Nodup) (h : (k, e) ∈ ms) : getE k ms = some e := by
  unfold getE
  cases hf : ms.find? (fun p => decide (p.1 = k)) with
  | none =>
    have := List.find?_eq_none.1 hf (k, e) h
    simp at this
  | some q =>
    have h1 := List.mem_of_find?_eq_some hf
    have h2 := List.find?_some hf
    simp at h2
    have := same_of_nodup (·.1) ms hn q h1 (k, e) h h2
    subst this
    rfl
theorem getE_none {k : K2} {ms : List (K2 × Ev)} (h : k ∉ ms.map (·.1)) : getE k ms = none := by
  unfold getE
  rw [List.find?_eq_none.2 (fun p hp => by simp; exact fun e => h (List.mem_map.2 ⟨p, hp, e⟩))]
  rfl
theorem putE_keys (k : K2) (x : Ev) (ms : List (K2 × Ev)) (hn : (ms.map (·.1)).Nodup) : ((putE k x ms).map (·.1)).Nodup := by
  unfold putE
  split
  · have : (ms.map (fun p => if p.1 = k then (k, x) else p)).map (·.1) = ms.map (·.1) := by
      rw [List.map_map]
      apply List.map_congr_left
      intro p _
      by_cases hp : p.1 = k <;> simp [hp]
    rw [this]
    exact hn
  · rename_i h
    rw [List.map_append, List.nodup_append]
    refine ⟨hn, by simp, ?_⟩
    intro a ha b hb e
    simp at hb
    subst hb e
    exact h ha
theorem putE_mem (k : K2) (x : Ev) (ms : List (K2 × Ev)) : (k, x) ∈ putE k x ms := by
  unfold putE
  split
  · rename_i h
    obtain ⟨q, hq, he⟩ := List.mem_map.1 h
    exact List.mem_map.2 ⟨q, hq, by simp [he]⟩
  · simp
theorem putE_other {k : K2} {x : Ev} {ms : List (K2 × Ev)} {p : K2 × Ev} (hp : p ∈ ms) (hk : p.1 ≠ k) : p ∈ putE k x ms := by
  unfold putE
  split
  · exact List.mem_map.2 ⟨p, hp, by simp [hk]⟩
  · exact List.mem_append.2 (.inl hp)
theorem putE_len (k : K2) (x : Ev) (ms : List (K2 × Ev)) : (putE k x ms).length ≤ ms.length + 1 := by
  unfold putE
  split <;> simp
section
variable {L : List Ev} {keep : Ev → Bool} {ms : List (K2 × Ev)}
theorem Holds_.nil (keep : Ev → Bool) : Holds_ [] keep [] := ⟨by simp, by simp, by simp⟩
/-- is it there? -/
theorem Holds_.get (h : Holds_ L keep ms) {j : Nat} {e : Ev} (he : L[j]? = some e) : (getE ((j : Int), e.fn) ms).isSome = keep e ∧ (keep e = true → Like e (wasE ((j : Int), e.fn) ms)) := by
  cases hk : keep e with
  | true =>
    obtain ⟨e', hm, hl⟩ := h.to_ j e he hk
    have hg := getE_of_mem h.nodup hm
    refine ⟨by rw [hg]; rfl, fun _ => ?_⟩
    unfold wasE
    rw [hg]
    exact hl
  | false =>
    refine ⟨?_, fun h => by cases h⟩
    rw [getE_none]
    · rfl
    · intro hm
      obtain ⟨p, hp, hpk⟩ := List.mem_map.1 hm
      obtain ⟨j', e', hj, hke, hl, hkp⟩ := h.from_ p hp
      rw [hke] at hpk
      simp only [Prod.mk.injEq] at hpk
      have : j' = j := by omega
      subst this
      rw [he] at hj
      have := Option.some.inj hj
      subst this
      rw [hk] at hkp
      cases hkp
/-- one more -/
theorem Holds_.more (h : Holds_ L (fun _ => true) ms) (e e' : Ev) (hl : Like e e') (hms : ms.length ≤ L.length) : Holds_ (L ++ [e]) (fun _ => true) (putE ((L.length : Int), e.fn) e' ms) ∧ getE ((L.length : Int), e.fn) ms = none := by
  have hno : ((L.length : Int), e.fn) ∉ ms.map (·.1) := by
    intro hm
    obtain ⟨p, hp, hpk⟩ := List.mem_map.1 hm
    obtain ⟨j', e'', hj, hke, _, _⟩ := h.from_ p hp
    rw [hke] at hpk
    simp only [Prod.mk.injEq] at hpk
    have h1 : j' < L.length := by
      rcases Nat.lt_or_ge j' L.length with h | h
      · exact h
      · rw [List.getElem?_eq_none h] at hj; cases hj
    omega
  refine ⟨⟨fun p hp => ?_, fun j x hx _ => ?_, putE_keys _ _ _ h.nodup⟩, getE_none hno⟩
  · rcases mem_putE hp with rfl | ⟨hp, _⟩
    · exact ⟨L.length, e, by simp, rfl, hl, rfl⟩
    · obtain ⟨j, x, hj, hk, hlx, _⟩ := h.from_ p hp
      refine ⟨j, x, ?_, hk, hlx, rfl⟩
      rw [List.getElem?_append_left]
      · exact hj
      · rcases Nat.lt_or_ge j L.length with h | h
        · exact h
        · rw [List.getElem?_eq_none h] at hj; cases hj
  · rcases Nat.lt_or_ge j L.length with hj | hj
    · rw [List.getElem?_append_left hj] at hx
      obtain ⟨x', hm, hlx⟩ := h.to_ j x hx rfl
      exact ⟨x', putE_other hm (by intro e'; simp only [Prod.mk.injEq] at e'; omega), hlx⟩
    · rw [List.getElem?_append_right hj] at hx
      have hj0 : j - L.length = 0 := by
        rcases Nat.eq_zero_or_pos (j - L.length) with h | h
        · exact h
        · rw [List.getElem?_eq_none (by simp; omega)] at hx; cases hx
      rw [hj0] at hx
      have hx' : e = x := by simpa using hx
      subst hx'
      have hjl : j = L.length := by omega
      subst hjl
      exact ⟨e', putE_mem _ _ _, hl⟩
/-- what is revoked is gone -/
theorem Holds_.revoked (h : Holds_ L (fun _ => true) ms) (fs : List (Int × Int)) : Holds_ L (fun e => !belowB fs e) (ms.filter (fun p => !belowB fs p.2)) := by
  have hb : ∀ {e e' : Ev}, Like e e' → belowB fs e' = belowB fs e := fun {e e'} hl => by
    unfold belowB
    have : underB e' = underB e := funext (fun p => hl.under p)
    rw [this]
  refine ⟨fun p hp => ?_, fun j e he hk => ?_, h.nodup.sublist (List.filter_sublist.map _)⟩
  · obtain ⟨hp1, hp2⟩ := List.mem_filter.1 hp
    obtain ⟨j, e, hj, hk, hl, _⟩ := h.from_ p hp1
    exact ⟨j, e, hj, hk, hl, by rw [← hb hl]; exact hp2⟩
  · obtain ⟨e', hm, hl⟩ := h.to_ j e he rfl
    exact ⟨e', List.mem_filter.2 ⟨hm, by show (!belowB fs e') = true; rw [hb hl]; exact hk⟩, hl⟩
/-- put again -/
theorem Holds_.again (h : Holds_ L keep ms) {j : Nat} {e e' : Ev} (he : L[j]? = some e) (hk : keep e = true) (hl : Like e e') : Holds_ L keep (putE ((j : Int), e.fn) e' ms) := by
  refine ⟨fun p hp => ?_, fun i x hx hkx => ?_, putE_keys _ _ _ h.nodup⟩
  · rcases mem_putE hp with rfl | ⟨hp, _⟩
    · exact ⟨j, e, he, rfl, hl, hk⟩
    · exact h.from_ p hp
  · by_cases hij : ((i : Int), x.fn) = ((j : Int), e.fn)
    · have hij' := hij
      simp only [Prod.mk.injEq] at hij
      have : i = j := by omega
      subst this
      rw [he] at hx
      have := Option.some.inj hx
      subst this
      exact ⟨e', putE_mem _ _ _, hl⟩
    · obtain ⟨x', hm, hlx⟩ := h.to_ i x hx hkx
      exact ⟨x', putE_other hm hij, hlx⟩
end
end Go.Proofs.Ytfmoagpfgkokcaa
