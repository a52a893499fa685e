import Derived.Test.YtkglndlmjleomaaWaitB
/-! BoxLists: the plain law. -/
namespace Go.Proofs.Ytkglndlmjleomaa
open Go.RowKit
set_option linter.unusedVariables false
set_option linter.unusedSimpArgs false

theorem nodup_len : ∀ (M K : List Int), K.Nodup → (∀ k ∈ K, k ∈ M) → K.length ≤ M.length
  | [], K, _, h => by
    cases K with
    | nil => exact Nat.le_refl _
    | cons a l => exact absurd (h a (List.mem_cons_self ..)) (by simp)
  | a :: M, K, hn, h => by
    have h1 := nodup_len M (K.erase a) (hn.erase a) (fun k hk => by
      have h2 := (List.Nodup.mem_erase_iff hn).1 hk
      rcases List.mem_cons.1 (h k h2.2) with e | e
      · exact absurd e h2.1
      · exact e)
    rw [List.length_erase] at h1
    rw [List.length_cons]
    split at h1 <;> omega
theorem sorted_asc {ks : List Int} (hn : ks.Nodup) : (sorted ks).Pairwise (· < ·) := by
  have h1 : (sorted ks).Pairwise (· ≤ ·) := by
    have := List.pairwise_mergeSort (le := fun x y : Int => decide (x ≤ y)) (fun a b c h1 h2 => by simp at h1 h2 ⊢; omega) (fun a b => by simp; omega) ks
    exact this.imp (fun h => by simpa using h)
  have h2 : (sorted ks).Nodup := (List.mergeSort_perm ks _).nodup_iff.2 hn
  exact (List.Pairwise.and h1 h2).imp (fun {a b} h => by have := h.1; have := h.2; omega)
theorem mem_sorted {ks : List Int} {k : Int} : k ∈ sorted ks ↔ k ∈ ks := (List.mergeSort_perm ks _).mem_iff
theorem len_sorted (ks : List Int) : (sorted ks).length = ks.length := (List.mergeSort_perm ks _).length_eq
section
variable {w w1 : World} {g : Nat} {n : Int} {f : Int → List MailA} {S : Nat → Prop}
theorem waiting_b (h : Bx w g n f S) (M : List Int) (hM : ∀ k, f k ≠ [] → k ∈ M) (hl : M.length ≤ 1000) :
    Calls Try.prog 19 #[.pointer (some ⟨g, 0, none⟩)] w fun e w' =>
      ∃ v' K, e = .returned v' ∧ Own 2 1 w' v' K.length (ints K) ∧ K.Pairwise (· < ·) ∧ (∀ k, k ∈ K ↔ f k ≠ []) ∧ Fr No w w' ∧ ∀ x, Of v' x → w.heap.size ≤ x := by
  obtain ⟨b, ms, h, rfl⟩ := h
  have hk := nodup_len M (ms.map (·.1)) h.map.nodup (fun k hk => hM k ((h.dom k).1 hk))
  rw [List.length_map] at hk
  refine (waiting_c h.blk h.map (by omega)).mono ?_
  rintro e w' ⟨v', he, ho, hf, hn⟩
  exact ⟨v', _, he, ho, sorted_asc h.map.nodup, fun k => mem_sorted.trans (h.dom k), hf, hn⟩
theorem all_b (h : Bx w g n f S) (M : List Int) (hM : ∀ k, f k ≠ [] → k ∈ M) (hl : M.length ≤ 1000) (hfl : ∀ k, (f k).length ≤ 1000) :
    Calls Try.prog 18 #[.pointer (some ⟨g, 0, none⟩)] w fun e w' =>
      ∃ v' K, e = .returned v' ∧ Own 30 6 w' v' (allOf K f).length (cellsOf (allOf K f)) ∧ K.Pairwise (· < ·) ∧ (∀ k, k ∈ K ↔ f k ≠ []) ∧ Fr No w w' ∧ ∀ x, Of v' x → w.heap.size ≤ x := by
  obtain ⟨b, ms, h, rfl⟩ := h
  have hk := nodup_len M (ms.map (·.1)) h.map.nodup (fun k hk => hM k ((h.dom k).1 hk))
  rw [List.length_map] at hk
  refine (all_c h (by omega) hfl).mono ?_
  rintro e w' ⟨v', he, ho, hf, hn⟩
  exact ⟨v', _, he, ho, sorted_asc h.map.nodup, fun k => mem_sorted.trans (h.dom k), hf, hn⟩
end
/-- what waits for k, out of all that was put -/
def ofP (P : List MailA) (k : Int) : List MailA := P.filter (fun m => decide (m.to = k))
theorem ofP_nil : ofP [] = fun _ => [] := rfl
theorem ofP_add (P : List MailA) (m : MailA) : addF (ofP P) m = ofP (P ++ [m]) := by
  funext k
  unfold addF ofP
  rw [List.filter_append]
  by_cases h : k = m.to
  · subst h; simp
  · rw [if_neg h, List.filter_cons_of_neg (by simpa using fun e => h e.symm)]; simp
theorem ofP_len (P : List MailA) (k : Int) : (ofP P k).length ≤ P.length := List.length_filter_le _ _
theorem ofP_mem {P : List MailA} {k : Int} {m : MailA} : m ∈ ofP P k ↔ m ∈ P ∧ m.to = k := by unfold ofP; rw [List.mem_filter]; simp
theorem ofP_ne {P : List MailA} {k : Int} : ofP P k ≠ [] ↔ ∃ m ∈ P, m.to = k := by
  rw [List.ne_nil_iff_exists_cons]
  constructor
  · rintro ⟨m, l, h⟩
    have := (ofP_mem (P := P) (k := k) (m := m)).1 (by rw [h]; exact List.mem_cons_self ..)
    exact ⟨m, this⟩
  · rintro ⟨m, hm⟩
    have := ofP_mem.2 hm
    cases h : ofP P k with
    | nil => rw [h] at this; cases this
    | cons a l => exact ⟨a, l, rfl⟩
theorem flat_congr : ∀ (K : List Int) (f g : Int → List MailA), (∀ k ∈ K, f k = g k) → K.flatMap f = K.flatMap g
  | [], _, _, _ => rfl
  | k :: K, f, g, h => by
    rw [List.flatMap_cons, List.flatMap_cons, h k (List.mem_cons_self ..), flat_congr K f g (fun k' hk' => h k' (List.mem_cons_of_mem _ hk'))]
theorem all_len : ∀ (K : List Int) (P : List MailA), K.Nodup → (∀ m ∈ P, m.to ∈ K) → (allOf K (ofP P)).length = P.length
  | [], P, _, h => by
    cases P with
    | nil => rfl
    | cons a l => exact absurd (h a (List.mem_cons_self ..)) (by simp)
  | k :: K, P, hn, h => by
    rw [List.nodup_cons] at hn
    have ih := all_len K (P.filter (fun m => !decide (m.to = k))) hn.2 (fun m hm => by
      rw [List.mem_filter] at hm
      rcases List.mem_cons.1 (h m hm.1) with e | e
      · have := hm.2; simp [e] at this
      · exact e)
    have e1 : allOf K (ofP (P.filter (fun m => !decide (m.to = k)))) = allOf K (ofP P) := by
      unfold allOf
      refine flat_congr K _ _ (fun k' hk' => ?_)
      unfold ofP
      rw [List.filter_filter]
      refine List.filter_congr (fun m _ => ?_)
      by_cases e : m.to = k'
      · have : ¬ m.to = k := fun e2 => hn.1 (by rw [← e2, e]; exact hk')
        simp [e, this]
        rw [← e]; exact this
      · simp [e]
    rw [e1] at ih
    show (ofP P k ++ allOf K (ofP P)).length = P.length
    rw [List.length_append, ih]
    unfold ofP
    have : ∀ (l : List MailA) (c : MailA → Bool), (l.filter c).length + (l.filter (fun x => !c x)).length = l.length := fun l c => by
      induction l with
      | nil => rfl
      | cons a l ih => cases h : c a <;> simp [h] <;> omega
    exact this P _
/-- actor by actor, in order -/
def Before (a b : MailA) : Prop := a.to < b.to ∨ (a.to = b.to ∧ a.seq < b.seq)
theorem all_asc {P : List MailA} (hP : P.Pairwise (fun a b => a.seq < b.seq)) : ∀ K : List Int, K.Pairwise (· < ·) → (allOf K (ofP P)).Pairwise Before
  | [], _ => List.Pairwise.nil
  | k :: K, h => by
    rw [List.pairwise_cons] at h
    show (ofP P k ++ allOf K (ofP P)).Pairwise Before
    rw [List.pairwise_append]
    refine ⟨?_, all_asc hP K h.2, fun a ha b hb => ?_⟩
    · have hs : (ofP P k).Pairwise (fun a b => a.seq < b.seq) := hP.sublist List.filter_sublist
      refine (List.pairwise_iff_getElem.2 fun i j hi hj hij => ?_)
      refine .inr ⟨?_, List.pairwise_iff_getElem.1 hs i j hi hj hij⟩
      rw [(ofP_mem.1 (List.getElem_mem hi)).2, (ofP_mem.1 (List.getElem_mem hj)).2]
    · obtain ⟨k', hk', hb'⟩ := List.mem_flatMap.1 hb
      refine .inl ?_
      rw [(ofP_mem.1 ha).2, (ofP_mem.1 hb').2]
      exact h.1 k' hk'
/-- how many there are of each -/
def Counts (P : List MailA) (cs : List (Int × Value)) : Prop := ∀ k, getK k cs = if (ofP P k).length = 0 then none else some (.int .i64 (ofP P k).length)
theorem Counts.nil : Counts [] [] := fun k => rfl
theorem Counts.get {P : List MailA} {cs : List (Int × Value)} (h : Counts P cs) (k : Int) : (getK k cs).getD (.int .i64 0) = .int .i64 (ofP P k).length := by
  rw [h k]
  split
  · rename_i e; rw [e]; rfl
  · rfl
theorem Counts.put {P : List MailA} {cs : List (Int × Value)} (h : Counts P cs) (hn : (cs.map (·.1)).Nodup) (m : MailA) : Counts (P ++ [m]) (putK m.to (.int .i64 ((ofP P m.to).length + 1)) cs) := by
  intro k
  rw [← ofP_add]
  by_cases e : k = m.to
  · rw [addF_eq _ _ e, e, getK_put_same m.to _ hn, List.length_append, List.length_singleton, if_neg (by omega)]
    congr 1
  · rw [getK_put_other _ e, addF_ne _ _ e, h k]
theorem Counts.mem {P : List MailA} {cs : List (Int × Value)} (h : Counts P cs) (hn : (cs.map (·.1)).Nodup) (k : Int) : k ∈ cs.map (·.1) ↔ ofP P k ≠ [] := by
  constructor
  · intro hk
    obtain ⟨_, v, _, _, hv⟩ := place_ofK hn hk
    intro e
    have := h k
    rw [e, hv] at this
    cases this
  · intro hk
    by_cases hm : k ∈ cs.map (·.1)
    · exact hm
    · exfalso
      have h1 := h k
      rw [getK_none hm] at h1
      split at h1
      · rename_i e; exact hk (List.eq_nil_of_length_eq_zero e)
      · cases h1
theorem Counts.len {P : List MailA} {cs : List (Int × Value)} (h : Counts P cs) (hn : (cs.map (·.1)).Nodup) {K : List Int} (hK : K.Pairwise (· < ·)) (hm : ∀ k, k ∈ K ↔ ofP P k ≠ []) : cs.length = K.length := by
  have nK : K.Nodup := hK.imp (fun h => by omega)
  have h1 := nodup_len K (cs.map (·.1)) hn (fun k hk => (hm k).2 ((h.mem hn k).1 hk))
  have h2 := nodup_len (cs.map (·.1)) K nK (fun k hk => (h.mem hn k).2 ((hm k).1 hk))
  rw [List.length_map] at h1 h2
  omega
end Go.Proofs.Ytkglndlmjleomaa
