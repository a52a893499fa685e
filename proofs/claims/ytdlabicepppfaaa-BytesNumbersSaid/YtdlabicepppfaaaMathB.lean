import Derived.Test.YtdlabicepppfaaaMath
/-! Plain laws: what is got, put again, is the same; a sealed byte that is another one; lists of varints. -/
namespace Go.Proofs.Ytdlabicepppfaaa
set_option linter.unusedVariables false

/-- what gu tells, put again, is the begin of the bytes -/
theorem gu_back (l : List UInt8) : ∀ (i n r k : Nat), gu l i n = (r, k, 0) → ∃ m, r = n + m * 128 ^ i ∧ k = i + (varint m).length ∧ (varint m).length ≤ l.length ∧ varint m = l.take (varint m).length ∧ (0 < i → 0 < m) := by
  induction l with
  | nil =>
    intro i n r k h
    by_cases hi : i < 10
    · rw [gu_nil hi] at h; simp at h
    · rw [gu_cap (by omega)] at h; simp at h
  | cons x l ih =>
    intro i n r k h
    by_cases hi : i < 10
    · by_cases hb : (i = 9 ∧ 1 < x.toNat) ∨ (x.toNat = 0 ∧ 0 < i)
      · rw [gu_bad hi hb] at h; simp at h
      · by_cases h2 : x.toNat < 128
        · rw [gu_last hi hb h2] at h
          injection h with h3 h4
          injection h4 with h4 h5
          refine ⟨x.toNat, by rw [← h3, Nat.mod_eq_of_lt h2], by rw [varint_small h2]; simp; omega, by rw [varint_small h2]; simp, ?_, fun h0 => by omega⟩
          rw [varint_small h2]
          simp
        · rw [gu_more hi hb (by omega)] at h
          obtain ⟨m, e1, e2, e3, e4, e5⟩ := ih _ _ _ _ h
          have hm : 0 < m := e5 (by omega)
          have hx := x.toNat_lt
          have hM : 128 ≤ x.toNat % 128 + 128 * m := by omega
          have hv : varint (x.toNat % 128 + 128 * m) = x :: varint m := by
            rw [varint_big hM, show (x.toNat % 128 + 128 * m) / 128 = m by omega, show (x.toNat % 128 + 128 * m) % 128 + 128 = x.toNat by omega]
            simp
          refine ⟨x.toNat % 128 + 128 * m, ?_, by rw [hv]; simp; omega, by rw [hv]; simp; omega, ?_, fun h0 => by omega⟩
          · rw [e1, Nat.pow_succ, Nat.add_mul]
            have : m * (128 ^ i * 128) = 128 * m * 128 ^ i := by rw [Nat.mul_comm (128 ^ i) 128, ← Nat.mul_assoc, Nat.mul_comm m 128]
            omega
          · rw [hv]
            simp only [List.length_cons, List.take_succ_cons]
            rw [← e4]
    · rw [gu_cap (by omega)] at h; simp at h

theorem getU_back (xs : List UInt8) (r k : Nat) (h : getU xs 0 = (r, k, 0)) : 1 ≤ k ∧ k ≤ xs.length ∧ varint r = xs.take k := by
  unfold getU at h
  rw [if_neg (by omega)] at h
  simp only [Int.toNat_zero, List.drop_zero, Nat.zero_add] at h
  by_cases c : (gu xs 0 0).2.2 = 0
  · rw [if_pos c] at h
    injection h with h1 h2
    injection h2 with h2 h3
    obtain ⟨m, e1, e2, e3, e4, e5⟩ := gu_back xs 0 0 r k (by rw [← h1, ← h2]; exact Prod.ext rfl (Prod.ext rfl c))
    rw [Nat.pow_zero, Nat.mul_one, Nat.zero_add] at e1
    subst e1
    have := varint_len_pos r
    refine ⟨by omega, by omega, ?_⟩
    rw [e2, Nat.zero_add]
    exact e4
  · rw [if_neg c] at h
    exact absurd (congrArg (fun q => q.2.2) h) c

theorem xor_ne_self {a t : UInt8} (ht : t ≠ 0) : a ^^^ t ≠ a := by
  intro h
  apply ht
  have h2 := congrArg (fun z => a ^^^ z) h
  simpa [← UInt8.xor_assoc] using h2

/-- a sealed byte that is another one -/
theorem sealed_turn (xs : List UInt8) (p : Nat) (x t : UInt8) (ht : t ≠ 0) (hx : (xs ++ four (crc xs))[p]? = some x) :
    ∃ ds e, (xs ++ four (crc xs)).set p (x ^^^ t) = ds ++ e ∧ ds.length = xs.length ∧ e.length = 4 ∧ num4 e ≠ crc ds := by
  by_cases hp : p < xs.length
  · refine ⟨xs.set p (x ^^^ t), four (crc xs), by rw [List.set_append_left _ _ hp], by simp, rfl, ?_⟩
    have h1 := num4_four (crc xs) (crc_lt xs) []
    rw [List.append_nil] at h1
    rw [h1]
    rw [List.getElem?_append_left hp] at hx
    have hsp : xs = xs.take p ++ ([x] ++ xs.drop (p + 1)) := by
      have h2 : xs[p]'hp = x := by rw [List.getElem?_eq_getElem hp] at hx; injection hx
      rw [List.singleton_append, ← h2, List.getElem_cons_drop, List.take_append_drop]
    have hb := burst (xs.take p) [x] [t] (xs.drop (p + 1)) rfl (by simp) ⟨t, by simp, ht⟩
    rw [← hsp] at hb
    intro h
    apply hb
    rw [h]
    congr 1
    rw [List.set_eq_take_append_cons_drop, if_pos hp]
    rfl
  · have hl : p < (xs ++ four (crc xs)).length := by
      rw [List.getElem?_eq_some_iff] at hx
      exact hx.1
    have h4 : (four (crc xs)).length = 4 := rfl
    rw [List.length_append, h4] at hl
    rw [List.getElem?_append_right (by omega)] at hx
    refine ⟨xs, (four (crc xs)).set (p - xs.length) (x ^^^ t), by rw [List.set_append_right _ _ (by omega)], rfl, by simp [h4], ?_⟩
    have h1 := num4_four (crc xs) (crc_lt xs) []
    rw [List.append_nil] at h1
    generalize crc xs = c at *
    obtain ⟨j, hj⟩ : ∃ j, p - xs.length = j := ⟨_, rfl⟩
    rw [hj] at hx ⊢
    have hj4 : j < 4 := by omega
    have hne := xor_ne_self (a := x) ht
    have hne2 : (x ^^^ t).toNat ≠ x.toNat := fun h => hne (UInt8.toNat_inj.1 h)
    have key : ∀ a b c' d : UInt8, num4 [a, b, c', d] = a.toNat * 16777216 + b.toNat * 65536 + c'.toNat * 256 + d.toNat := fun a b c' d => rfl
    unfold four at *
    generalize UInt8.ofNat (c / 16777216) = a0 at *
    generalize UInt8.ofNat (c / 65536) = a1 at *
    generalize UInt8.ofNat (c / 256) = a2 at *
    generalize UInt8.ofNat c = a3 at *
    rw [key] at h1
    rcases j with _ | _ | _ | _ | j
    · simp at hx; subst hx; simp only [List.set_cons_zero]; rw [key]; omega
    · simp at hx; subst hx; simp only [List.set_cons_succ, List.set_cons_zero]; rw [key]; omega
    · simp at hx; subst hx; simp only [List.set_cons_succ, List.set_cons_zero]; rw [key]; omega
    · simp at hx; subst hx; simp only [List.set_cons_succ, List.set_cons_zero]; rw [key]; omega
    · omega

end Go.Proofs.Ytdlabicepppfaaa
