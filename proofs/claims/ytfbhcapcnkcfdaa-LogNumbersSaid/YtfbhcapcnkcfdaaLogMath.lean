import Derived.Test.YtfbhcapcnkcfdaaMath
/-! Records of a log, in plain lists: what is whole, what is torn. -/
namespace Go.Proofs.Ytfbhcapcnkcfdaa
open Go
set_option linter.unusedVariables false

/-- a record's bytes -/
def recB (b : List UInt8) : List UInt8 := four b.length ++ (four (crc b) ++ b)
theorem four_length (n : Nat) : (four n).length = 4 := rfl
theorem recB_length (b : List UInt8) : (recB b).length = 8 + b.length := by simp [recB, four_length]; omega
/-- a whole record at the begin -/
def nextL (b : List UInt8) : Option (List UInt8) :=
  if b.length < 8 then none
  else if num4 b < 1 ∨ 1048576 < num4 b ∨ b.length < 8 + num4 b then none
  else if num4 (b.drop 4) = crc ((b.drop 8).take (num4 b)) then some ((b.drop 8).take (num4 b)) else none
theorem nextL_some {b r : List UInt8} (h : nextL b = some r) : 1 ≤ r.length ∧ r.length ≤ 1048576 ∧ 8 + r.length ≤ b.length := by
  unfold nextL at h
  split at h
  · cases h
  · split at h
    · cases h
    · split at h
      · injection h with h
        subst h
        simp
        omega
      · cases h
/-- a record that may be -/
def Good (b : List UInt8) : Prop := 1 ≤ b.length ∧ b.length ≤ 1048576
theorem num4_rec (b t : List UInt8) (hb : b.length ≤ 1048576) : num4 (recB b ++ t) = b.length := by
  unfold recB
  rw [List.append_assoc]
  exact num4_four _ (by omega) _
theorem drop4_rec (b t : List UInt8) : (recB b ++ t).drop 4 = four (crc b) ++ (b ++ t) := by
  unfold recB
  rw [List.append_assoc, List.append_assoc]
  rfl
theorem drop8_rec (b t : List UInt8) : (recB b ++ t).drop 8 = b ++ t := by
  unfold recB
  rw [List.append_assoc, List.append_assoc]
  rfl
theorem nextL_rec (b t : List UInt8) (hb : Good b) : nextL (recB b ++ t) = some b := by
  have hl : (recB b ++ t).length = 8 + b.length + t.length := by rw [List.length_append, recB_length]
  have h1 := num4_rec b t hb.2
  have hb1 := hb.1
  have hb2 := hb.2
  unfold nextL
  rw [if_neg (by omega), h1, if_neg (by omega), drop4_rec, drop8_rec, num4_four _ (crc_lt b), List.take_left' rfl, if_pos rfl]
theorem num4_take {xs : List UInt8} {k : Nat} (hk : 4 ≤ k) : num4 (xs.take k) = num4 xs := by
  unfold num4
  simp only [List.getD]
  rw [List.getElem?_take_of_lt (by omega), List.getElem?_take_of_lt (by omega), List.getElem?_take_of_lt (by omega), List.getElem?_take_of_lt (by omega)]
/-- torn: there is none -/
theorem nextL_torn (b : List UInt8) (hb : Good b) (k : Nat) (hk : k < (recB b).length) : nextL ((recB b).take k) = none := by
  rw [recB_length] at hk
  have hl : ((recB b).take k).length = k := by rw [List.length_take, recB_length]; omega
  unfold nextL
  by_cases h8 : k < 8
  · rw [if_pos (by omega)]
  · rw [if_neg (by omega)]
    have h1 : num4 ((recB b).take k) = b.length := by
      rw [num4_take (by omega)]
      have := num4_rec b [] hb.2
      rwa [List.append_nil] at this
    rw [h1, if_pos (by right; right; omega)]
theorem nextL_nil : nextL [] = none := by unfold nextL; rw [if_pos (by simp)]

/-- all whole records -/
def wholeL (b : List UInt8) : List (List UInt8) :=
  match h : nextL b with
  | none => []
  | some r => r :: wholeL (b.drop (8 + r.length))
termination_by b.length
decreasing_by
  have := nextL_some h
  simp
  omega
theorem wholeL_none {b : List UInt8} (h : nextL b = none) : wholeL b = [] := by
  rw [wholeL]
  split
  · rfl
  · rename_i r hr; rw [h] at hr; cases hr
theorem wholeL_some {b r : List UInt8} (h : nextL b = some r) : wholeL b = r :: wholeL (b.drop (8 + r.length)) := by
  conv => lhs; rw [wholeL]
  split
  · rename_i hr; rw [h] at hr; cases hr
  · rename_i r' hr; rw [h] at hr; injection hr with hr; subst hr; rfl
/-- the bytes of records -/
def recsB (rs : List (List UInt8)) : List UInt8 := (rs.map recB).flatten
theorem recsB_nil : recsB [] = [] := rfl
theorem recsB_cons (r : List UInt8) (rs : List (List UInt8)) : recsB (r :: rs) = recB r ++ recsB rs := by simp [recsB]
theorem recsB_append (a b : List (List UInt8)) : recsB (a ++ b) = recsB a ++ recsB b := by simp [recsB]
theorem recsB_one (r : List UInt8) : recsB [r] = recB r := by simp [recsB]
theorem recsB_snoc (a : List (List UInt8)) (r : List UInt8) : recsB (a ++ [r]) = recsB a ++ recB r := by rw [recsB_append, recsB_one]
theorem recsB_snoc_len (a : List (List UInt8)) (r : List UInt8) : (recsB (a ++ [r])).length = (recsB a).length + (8 + r.length) := by rw [recsB_snoc, List.length_append, recB_length]
theorem wholeL_recs (rs : List (List UInt8)) (t : List UInt8) (h : ∀ r ∈ rs, Good r) : wholeL (recsB rs ++ t) = rs ++ wholeL t := by
  induction rs with
  | nil => rfl
  | cons r rs ih =>
    rw [recsB_cons, List.append_assoc, wholeL_some (nextL_rec r _ (h r (by simp))), ← recB_length, List.drop_left' rfl, ih (fun x hx => h x (by simp [hx]))]
    rfl
theorem wholeL_recs_nil (rs : List (List UInt8)) (h : ∀ r ∈ rs, Good r) : wholeL (recsB rs) = rs := by
  have := wholeL_recs rs [] h
  rw [List.append_nil] at this
  rw [this, wholeL_none nextL_nil, List.append_nil]
theorem wholeL_torn (rs : List (List UInt8)) (r : List UInt8) (h : ∀ r ∈ rs, Good r) (hr : Good r) (k : Nat) (hk : k < (recB r).length) : wholeL (recsB rs ++ (recB r).take k) = rs := by
  rw [wholeL_recs rs _ h, wholeL_none (nextL_torn r hr k hk), List.append_nil]
theorem wholeL_good : ∀ (n : Nat) (b : List UInt8), b.length ≤ n → ∀ r ∈ wholeL b, Good r := by
  intro n
  induction n with
  | zero =>
    intro b hb r hr
    have : b = [] := List.eq_nil_of_length_eq_zero (by omega)
    subst this
    rw [wholeL_none nextL_nil] at hr
    cases hr
  | succ n ih =>
    intro b hb r hr
    cases h : nextL b with
    | none => rw [wholeL_none h] at hr; cases hr
    | some q =>
      have hq := nextL_some h
      rw [wholeL_some h] at hr
      rcases List.mem_cons.1 hr with rfl | hr
      · exact ⟨hq.1, hq.2.1⟩
      · exact ih _ (by simp; omega) r hr
theorem wholeL_size : ∀ (n : Nat) (b : List UInt8), b.length ≤ n → (recsB (wholeL b)).length ≤ b.length := by
  intro n
  induction n with
  | zero =>
    intro b hb
    have : b = [] := List.eq_nil_of_length_eq_zero (by omega)
    subst this
    rw [wholeL_none nextL_nil]
    simp [recsB]
  | succ n ih =>
    intro b hb
    cases h : nextL b with
    | none => rw [wholeL_none h]; simp [recsB]
    | some q =>
      have hq := nextL_some h
      have := ih (b.drop (8 + q.length)) (by simp; omega)
      rw [wholeL_some h, recsB_cons, List.length_append, recB_length]
      simp at this
      omega
/-- a prefix of good records' bytes holds a prefix of the records -/
theorem wholeL_take : ∀ (rs : List (List UInt8)), (∀ r ∈ rs, Good r) → ∀ k, ∃ j, j ≤ rs.length ∧ wholeL ((recsB rs).take k) = rs.take j ∧ (∀ k', k ≤ k' → ∀ j', j' ≤ rs.length → wholeL ((recsB rs).take k') = rs.take j' → j ≤ j') := by
  intro rs
  induction rs with
  | nil =>
    intro _ k
    refine ⟨0, Nat.le_refl _, ?_, fun _ _ _ _ _ => Nat.zero_le _⟩
    rw [recsB_nil, List.take_nil, wholeL_none nextL_nil]
    rfl
  | cons r rs ih =>
    intro h k
    have hr := h r (by simp)
    by_cases hk : k < (recB r).length
    · refine ⟨0, Nat.zero_le _, ?_, fun _ _ _ _ _ => Nat.zero_le _⟩
      rw [recsB_cons, List.take_append_of_le_length (by omega), wholeL_none (nextL_torn r hr k hk)]
      rfl
    · have split : ∀ m, (recB r).length ≤ m → wholeL ((recsB (r :: rs)).take m) = r :: wholeL ((recsB rs).take (m - (recB r).length)) := by
        intro m hm
        rw [recsB_cons, List.take_append, List.take_of_length_le hm, wholeL_some (nextL_rec r _ hr), ← recB_length, List.drop_left' rfl]
      obtain ⟨j, hj, hw, hmono⟩ := ih (fun x hx => h x (by simp [hx])) (k - (recB r).length)
      refine ⟨j + 1, by simp; omega, ?_, ?_⟩
      · rw [split k (by omega), hw]; rfl
      · intro k' hk' j' hj' hw'
        rw [split k' (by omega)] at hw'
        cases j' with
        | zero => rw [List.take_zero] at hw'; cases hw'
        | succ j' =>
          rw [List.take_succ_cons] at hw'
          injection hw' with _ hw'
          have := hmono (k' - (recB r).length) (by omega) j' (by simp at hj'; omega) hw'
          omega
theorem recsB_take_le (rs : List (List UInt8)) (j : Nat) : (recsB (rs.take j)).length ≤ (recsB rs).length := by
  conv => rhs; rw [← List.take_append_drop j rs, recsB_append, List.length_append]
  omega
end Go.Proofs.Ytfbhcapcnkcfdaa
