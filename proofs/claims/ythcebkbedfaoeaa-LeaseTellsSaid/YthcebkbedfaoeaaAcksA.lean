import Derived.Test.YthcebkbedfaoeaaLeaseLonger
import Derived.Test.YthcebkbedfaoeaaOps3
/-! LeaseAcks: the plain law. -/
namespace Go.Proofs.Ythcebkbedfaoeaa
open Go.RowKit Go.Lib
set_option linter.unusedVariables false
set_option linter.unusedSimpArgs false

theorem same_key {x y : Ls} (h1 : ltOf cmpL x y = false) (h2 : ltOf cmpL y x = false) : x.key = y.key := by
  rw [ltL, decide_eq_false_iff_not] at h1 h2
  unfold Ls.key
  have e1 : x.node = y.node := by omega
  have e2 : x.version = y.version := by omega
  have e3 : x.fn = y.fn := by omega
  rw [e1, e2, e3]
theorem asc_eq {ys zs : List Ls} (hp : ys.Perm zs) (h1 : Asc ys) (h2 : Asc zs) (hk : (zs.map Ls.key).Nodup) : ys = zs := by
  refine List.Perm.eq_of_pairwise (le := fun x y => ltOf cmpL y x = false) ?_ h1 h2 hp
  intro a b ha hb hab hba
  exact same_of_nodup Ls.key zs hk a (hp.mem_iff.1 ha) b hb (same_key hba hab)
/-- a table's leases, each under its own key -/
structure Keyed (ms : List (K3 × Ls)) : Prop where
  keyed : ∀ p ∈ ms, p.1 = p.2.key
  nodup : (ms.map (·.1)).Nodup
  till : ∀ p ∈ ms, 0 ≤ p.2.till ∧ p.2.till ≤ 4611686018427387904
theorem Keyed.tills {ms : List (K3 × Ls)} (h : Keyed ms) : Tills ms := h.till
theorem Keyed.nil : Keyed [] := ⟨by simp, by simp, by simp⟩
theorem Keyed.keys {ms : List (K3 × Ls)} (h : Keyed ms) : ((ms.map (·.2)).map Ls.key).Nodup := by
  have : (ms.map (·.2)).map Ls.key = ms.map (·.1) := by
    rw [List.map_map]
    exact List.map_congr_left (fun p hp => (h.keyed p hp).symm)
  rw [this]
  exact h.nodup
theorem Keyed.put {ms : List (K3 × Ls)} (h : Keyed ms) (x : Ls) (ht : 0 ≤ x.till ∧ x.till ≤ 4611686018427387904) : Keyed (putT x.key x ms) := by
  refine ⟨fun p hp => ?_, putT_keys _ _ _ h.nodup, fun p hp => ?_⟩
  · rcases mem_putT hp with rfl | ⟨hp, _⟩
    · rfl
    · exact h.keyed p hp
  · rcases mem_putT hp with rfl | ⟨hp, _⟩
    · exact ht
    · exact h.till p hp
theorem Keyed.sub {ms : List (K3 × Ls)} (h : Keyed ms) (c : K3 × Ls → Bool) : Keyed (ms.filter c) :=
  ⟨fun p hp => h.keyed p (List.mem_filter.1 hp).1, h.nodup.sublist (List.filter_sublist.map _), fun p hp => h.till p (List.mem_filter.1 hp).1⟩
theorem Keyed.was {ms : List (K3 × Ls)} (h : Keyed ms) (k : K3) : 0 ≤ (wasOf k ms).till ∧ (wasOf k ms).till ≤ 4611686018427387904 := by
  unfold wasOf getT
  cases hf : ms.find? (fun p => decide (p.1 = k)) with
  | none => exact ⟨by decide, by decide⟩
  | some q => exact h.till q (List.mem_of_find?_eq_some hf)
/-- Grant, whatever comes of it -/
theorem grant_any {w : World} {g b : Nat} {n l s : Int} {ms : List (K3 × Ls)} (h : IsTab w g b n l s ms) (hk : Keyed ms) (node version fn epoch tick : Int) (hn : 0 ≤ node ∧ node < n) (hv : 0 ≤ version ∧ version ≤ 1099511627776) (hf : 0 ≤ fn ∧ fn ≤ 1099511627776)
    (he : 0 ≤ epoch ∧ epoch ≤ 1099511627776) (ht : 0 ≤ tick ∧ tick ≤ 1099511627776) (hl : 0 ≤ l ∧ l ≤ 1048576) :
    Calls Try.prog 9 #[.pointer (some ⟨g, 0, none⟩), .int .i64 node, .int .i64 version, .int .i64 fn, .int .i64 epoch, .int .i64 tick] w fun e w' =>
      ∃ (u : Value) (ms' : List (K3 × Ls)), e = .returned u ∧ IsTab w' g b n l s ms' ∧ Keyed ms' ∧ ms'.length ≤ ms.length + 1 ∧ Fr (fun x => x = b) w w' := by
  by_cases hw : (wasOf (node, version, fn) ms).epoch ≤ epoch
  · refine (grant_ok h node version fn epoch tick hn hv hf he ht hl hw).mono ?_
    rintro e w' ⟨rfl, t, f⟩
    have hwt := hk.was (node, version, fn)
    refine ⟨_, _, rfl, t, hk.put ⟨node, version, fn, epoch, max (tick + l) (wasOf (node, version, fn) ms).till⟩ ⟨?_, ?_⟩, putT_len _ _ _, f⟩
    · show 0 ≤ max (tick + l) (wasOf (node, version, fn) ms).till
      omega
    · show max (tick + l) (wasOf (node, version, fn) ms).till ≤ 4611686018427387904
      omega
  · refine (grant_epoch h node version fn epoch tick hn hv hf he ht (by omega)).mono ?_
    rintro e w' ⟨rfl, f⟩
    exact ⟨_, ms, rfl, h.keep f, hk, by omega, f.mono (fun x _ h => absurd h (not_no x))⟩
/-- what an ack leaves, in order -/
theorem acked_order {ms : List (K3 × Ls)} (hk : Keyed ms) (c : Ls → Bool) {ys zs : List Ls} (hy : ys.Perm (ms.map (·.2))) (ay : Asc ys) (hz : zs.Perm ((ms.filter (fun p => c p.2)).map (·.2))) (az : Asc zs) : zs = ys.filter c := by
  have e1 : (ms.filter (fun p => c p.2)).map (·.2) = (ms.map (·.2)).filter c := by rw [List.filter_map]; rfl
  have hp : (ys.filter c).Perm zs := (hy.filter c).trans (by rw [← e1]; exact hz.symm)
  have hkz : (zs.map Ls.key).Nodup := ((hz.map Ls.key).nodup_iff).2 (hk.sub (fun p => c p.2)).keys
  exact (asc_eq hp (ay.sublist List.filter_sublist) az hkz).symm
section
variable {ys : List Ls} {c : Ls → Bool} {i : Nat} {x : Ls}
theorem take_keep (hx : ys[i]? = some x) (hc : c x = true) : ((ys.take (i + 1)).filter c).length = ((ys.take i).filter c).length + 1 ∧ (ys.filter c)[((ys.take i).filter c).length]? = some x ∧ ((ys.take i).filter c).length < (ys.filter c).length := by
  have h1 : ys = ys.take i ++ x :: ys.drop (i + 1) := by
    have hi : i < ys.length := by
      rcases Nat.lt_or_ge i ys.length with h | h
      · exact h
      · rw [List.getElem?_eq_none h] at hx; cases hx
    rw [List.getElem?_eq_getElem hi] at hx
    have := Option.some.inj hx
    rw [← this, List.getElem_cons_drop, List.take_append_drop]
  have h2 : ys.filter c = (ys.take i).filter c ++ x :: (ys.drop (i + 1)).filter c := by
    conv => lhs; rw [h1]
    rw [List.filter_append, List.filter_cons_of_pos hc]
  refine ⟨by rw [List.take_add_one, hx, List.filter_append]; simp [hc], ?_, ?_⟩
  · rw [h2, List.getElem?_append_right (Nat.le_refl _), Nat.sub_self]
    rfl
  · rw [h2, List.length_append, List.length_cons]
    omega
theorem take_skip (hx : ys[i]? = some x) (hc : c x = false) : ((ys.take (i + 1)).filter c).length = ((ys.take i).filter c).length := by
  rw [List.take_add_one, hx, List.filter_append]; simp [hc]
theorem drop_next (hx : ys[i]? = some x) : ((ys.drop i).filter c).length = (if c x then 1 else 0) + ((ys.drop (i + 1)).filter c).length := by
  have hi : i < ys.length := by
    rcases Nat.lt_or_ge i ys.length with h | h
    · exact h
    · rw [List.getElem?_eq_none h] at hx; cases hx
  rw [List.getElem?_eq_getElem hi] at hx
  have := Option.some.inj hx
  rw [← List.getElem_cons_drop hi, this]
  cases h : c x <;> simp [h, Nat.add_comm]
end
theorem count_gone (ys : List Ls) (c : Ls → Bool) : (ys.filter c).length + (ys.filter (fun x => !c x)).length = ys.length := by
  induction ys with
  | nil => rfl
  | cons a l ih => cases h : c a <;> simp [h] <;> omega
end Go.Proofs.Ythcebkbedfaoeaa
