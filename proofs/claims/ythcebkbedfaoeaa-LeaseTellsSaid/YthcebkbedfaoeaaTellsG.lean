import Derived.Test.YthcebkbedfaoeaaTellsE
/-! LeaseTells, the plain law of a grant: the row stays in order, and is the table's. -/
namespace Go.Proofs.Ythcebkbedfaoeaa
open Go.RowKit Go.Lib
set_option linter.unusedVariables false
set_option linter.unusedSimpArgs false

theorem lt_keys {x y x' y' : Ls} (h1 : x.key = x'.key) (h2 : y.key = y'.key) : ltOf cmpL x y = ltOf cmpL x' y' := by
  unfold Ls.key at h1 h2
  injection h1 with a1 a2
  injection a2 with a2 a3
  injection h2 with b1 b2
  injection b2 with b2 b3
  rw [ltL, ltL, a1, a2, a3, b1, b2, b3]
theorem lt_not {x y : Ls} (h : ltOf cmpL x y = true) : ltOf cmpL y x = false := by
  rw [ltL, decide_eq_true_eq] at h
  rw [ltL, decide_eq_false_iff_not]
  omega
theorem lt_ne {x y : Ls} (h : ltOf cmpL x y = true) : x.key ≠ y.key := by
  intro e
  unfold Ls.key at e
  injection e with a1 a2
  injection a2 with a2 a3
  rw [ltL, decide_eq_true_eq] at h
  omega
theorem lt_le {x y z : Ls} (h : ltOf cmpL x y = true) (h2 : ltOf cmpL z y = false) : ltOf cmpL x z = true := by
  rw [ltL, decide_eq_true_eq] at h ⊢
  rw [ltL, decide_eq_false_iff_not] at h2
  omega
theorem lcells_take : ∀ (ys : List Ls) (t : Nat), lcells (ys.take t) = (lcells ys).take (t * 5)
  | [], t => by simp [lcells, rows]
  | y :: r, 0 => by simp [lcells, rows]
  | y :: r, t + 1 => by
    have h := lcells_take r t
    show y.cells.toList ++ lcells (r.take t) = (y.cells.toList ++ lcells r).take ((t + 1) * 5)
    rw [h, show (t + 1) * 5 = t * 5 + 5 by omega]
    rfl
theorem lcells_drop : ∀ (ys : List Ls) (t : Nat), lcells (ys.drop t) = (lcells ys).drop (t * 5)
  | [], t => by simp [lcells, rows]
  | y :: r, 0 => by simp
  | y :: r, t + 1 => by
    have h := lcells_drop r t
    show lcells (r.drop t) = (y.cells.toList ++ lcells r).drop ((t + 1) * 5)
    rw [h, show (t + 1) * 5 = t * 5 + 5 by omega]
    rfl
section
variable {ms : List (K3 × Ls)} {ys : List Ls}
theorem row_keys (hk : Keyed ms) (hp : ys.Perm (ms.map (·.2))) : (ys.map Ls.key).Nodup := (hp.map Ls.key).nodup_iff.2 hk.keys
/-- an equal stands there -/
theorem grant_same (hk : Keyed ms) (hp : ys.Perm (ms.map (·.2))) (ha : Asc ys) {x y : Ls} {t : Nat} (hy : ys[t]? = some y) (h1 : ltOf cmpL y x = false) (h2 : ltOf cmpL x y = false) :
    wasOf x.key ms = y ∧ ∀ x' : Ls, x'.key = x.key → (ys.set t x').Perm ((putT x.key x' ms).map (·.2)) ∧ Asc (ys.set t x') := by
  have hxy : x.key = y.key := same_key h2 h1
  obtain ⟨htl, hyt⟩ := List.getElem?_eq_some_iff.1 hy
  have hym : y ∈ ys := List.mem_of_getElem? hy
  obtain ⟨p, hpm, hpy⟩ := List.mem_map.1 (hp.mem_iff.1 hym)
  have hpk : p.1 = x.key := by rw [hk.keyed p hpm, hpy, hxy]
  have hmem : (x.key, y) ∈ ms := by rw [← hpk, ← hpy]; exact hpm
  refine ⟨was_mem hk.nodup hmem, fun x' hx' => ?_⟩
  have hin : x.key ∈ ms.map (·.1) := List.mem_map.2 ⟨p, hpm, hpk⟩
  have hset : ys.set t x' = ys.map (fun z => if z.key = x.key then x' else z) := by
    refine List.ext_getElem (by simp) (fun i h3 h4 => ?_)
    rw [List.getElem_set, List.getElem_map]
    have hi : i < ys.length := by simpa using h4
    by_cases e : t = i
    · subst e
      rw [if_pos rfl, hyt, if_pos hxy.symm]
    · rw [if_neg e, if_neg (fun hc => ?_)]
      have hnd := row_keys hk hp
      have h5 : (ys.map Ls.key)[i]'(by simpa using hi) = (ys.map Ls.key)[t]'(by simpa using htl) := by
        rw [List.getElem_map, List.getElem_map, hyt, hc, hxy]
      have hpg := List.pairwise_iff_getElem.1 hnd
      rcases Nat.lt_trichotomy t i with h6 | h6 | h6
      · exact hpg t i (by simpa using htl) (by simpa using hi) h6 h5.symm
      · exact e h6
      · exact hpg i t (by simpa using hi) (by simpa using htl) h6 h5
  have hput : (putT x.key x' ms).map (·.2) = (ms.map (·.2)).map (fun z => if z.key = x.key then x' else z) := by
    unfold putT
    rw [if_pos hin, List.map_map, List.map_map]
    refine List.map_congr_left (fun q hq => ?_)
    show (if q.1 = x.key then (x.key, x') else q).2 = if q.2.key = x.key then x' else q.2
    rw [hk.keyed q hq]
    split <;> rfl
  refine ⟨by rw [hset, hput]; exact hp.map _, ?_⟩
  rw [hset]
  unfold Asc at ha ⊢
  rw [List.pairwise_map]
  refine ha.imp (fun {a b} hab => ?_)
  have hf : ∀ z : Ls, (if z.key = x.key then x' else z).key = z.key := fun z => by
    split
    · rename_i hz; rw [hx', hz]
    · rfl
  rw [lt_keys (hf b) (hf a)]
  exact hab
/-- none stands there -/
theorem grant_new (hk : Keyed ms) (hp : ys.Perm (ms.map (·.2))) (ha : Asc ys) {x : Ls} {t : Nat} (hb : ∀ y ∈ ys.take t, ltOf cmpL y x = true) (hn : ∀ y, ys[t]? = some y → ltOf cmpL x y = true) :
    wasOf x.key ms = zeroX ∧ (ys.take t ++ [x] ++ ys.drop t).Perm ((putT x.key x ms).map (·.2)) ∧ Asc (ys.take t ++ [x] ++ ys.drop t) := by
  have hd : ∀ z ∈ ys.drop t, ltOf cmpL x z = true := by
    intro z hz
    cases h : ys.drop t with
    | nil => rw [h] at hz; cases hz
    | cons y r =>
      have hy : ys[t]? = some y := by
        have : (ys.drop t)[0]? = some y := by rw [h]; rfl
        simpa using this
      have hxy := hn y hy
      rw [h] at hz
      rcases List.mem_cons.1 hz with rfl | hz
      · exact hxy
      · have hpw : (ys.drop t).Pairwise (fun a b => ltOf cmpL b a = false) := List.Pairwise.sublist (List.drop_sublist t ys) ha
        rw [h] at hpw
        exact lt_le hxy ((List.pairwise_cons.1 hpw).1 z hz)
  have hall : ∀ z ∈ ys, z.key ≠ x.key := by
    intro z hz
    rw [← List.take_append_drop t ys] at hz
    rcases List.mem_append.1 hz with h | h
    · exact lt_ne (hb z h)
    · exact fun e => lt_ne (hd z h) e.symm
  have hnot : x.key ∉ ms.map (·.1) := by
    intro h
    obtain ⟨p, hpm, hpk⟩ := List.mem_map.1 h
    exact hall p.2 (hp.mem_iff.2 (List.mem_map.2 ⟨p, hpm, rfl⟩)) (by rw [← hk.keyed p hpm, hpk])
  refine ⟨?_, ?_, ?_⟩
  · have : getT x.key ms = none := by
      unfold getT
      rw [List.find?_eq_none.2 (fun p hpm => by
        intro hc
        exact hnot (List.mem_map.2 ⟨p, hpm, by simpa using hc⟩))]
      rfl
    unfold wasOf
    rw [this]
    rfl
  · unfold putT
    rw [if_neg hnot, List.map_append]
    have h1 : (ys.take t ++ [x] ++ ys.drop t).Perm (ys ++ [x]) := by
      rw [List.append_assoc]
      refine (List.Perm.append_left _ List.perm_append_comm).trans ?_
      rw [← List.append_assoc, List.take_append_drop]
    exact h1.trans (hp.append_right _)
  · unfold Asc at ha ⊢
    rw [List.append_assoc, List.pairwise_append]
    refine ⟨List.Pairwise.sublist (List.take_sublist t ys) ha, ?_, ?_⟩
    · show (x :: ys.drop t).Pairwise _
      exact List.pairwise_cons.2 ⟨fun z hz => lt_not (hd z hz), List.Pairwise.sublist (List.drop_sublist t ys) ha⟩
    · intro a h1 b h2
      rcases List.mem_append.1 h2 with h | h
      · rw [List.mem_singleton.1 h]; exact lt_not (hb a h1)
      · exact lt_not (lt_le (hb a h1) (lt_not (hd b h)))
end
end Go.Proofs.Ythcebkbedfaoeaa
