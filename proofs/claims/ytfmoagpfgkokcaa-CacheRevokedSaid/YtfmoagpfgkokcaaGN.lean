import Derived.Test.YtfmoagpfgkokcaaGM
import Derived.Test.YtfmoagpfgkokcaaGK
/-! CacheRevoked: the plain law. -/
namespace Go.Proofs.Ytfmoagpfgkokcaa
open Go.RowKit
set_option linter.unusedVariables false
set_option linter.unusedSimpArgs false

set_option maxRecDepth 100000 in
set_option maxHeartbeats 400000 in
theorem pick_c (x n : Int) (h1 : -9223372036854775808 ≤ x) (h2 : x ≤ 9223372036854775807) (hn : 0 < n) (hn2 : n ≤ 4611686018427387904) (w : World) :
    Calls Try.prog 18 #[.int .i64 x, .int .i64 n] w fun en w' => en = .returned (.int .i64 (x % n)) ∧ w' = w := by
  have hm := Int.emod_nonneg x (show n ≠ 0 by omega)
  have hm2 := Int.emod_lt_of_pos x hn
  have ht : x.tmod n = x % n ∨ (x.tmod n = x % n - n ∧ 0 < x % n) := by
    rw [Int.tmod_eq_emod]
    by_cases h : 0 ≤ x ∨ n ∣ x
    · rw [if_pos h]; left; omega
    · rw [if_neg h]
      have : x % n ≠ 0 := fun e => h (.inr (Int.dvd_of_emod_eq_zero e))
      right; omega
  have HT := hid ht
  clear ht
  have d1 : ¬ n < 1 := by omega
  by_cases hneg : x.tmod n < 0
  · go_enter Try.func18, Try.ntmps18
    go_wp2
    go_ret
    refine ⟨congrArg (fun i => Ending.returned (.int .i64 i)) ?_, rfl⟩
    show wrap64 (x.tmod n + n) = x % n
    have := HT.out
    unfold wrap64
    omega
  · go_enter Try.func18, Try.ntmps18
    go_wp2
    go_ret
    refine ⟨congrArg (fun i => Ending.returned (.int .i64 i)) ?_, rfl⟩
    show x.tmod n = x % n
    have := HT.out
    omega
abbrev put5 (w : World) (b : Nat) (v0 v1 v2 v3 v4 : Value) : World :=
  ((((w.setCell ⟨b, 0, none⟩ v0).setCell ⟨b, 1, none⟩ v1).setCell ⟨b, 2, none⟩ v2).setCell ⟨b, 3, none⟩ v3).setCell ⟨b, 4, none⟩ v4
theorem floor_mem {k : Int} {fs : List (Int × Int)} (h : k ∈ fs.map (·.1)) : (k, floorOf k fs) ∈ fs := by
  unfold floorOf
  cases hf : fs.find? (fun p => decide (p.1 = k)) with
  | none =>
    obtain ⟨p, hp, he⟩ := List.mem_map.1 h
    have := List.find?_eq_none.1 hf p hp
    simp [he] at this
  | some q =>
    have h1 := List.find?_some hf
    have h2 := List.mem_of_find?_eq_some hf
    simp at h1
    obtain ⟨q1, q2⟩ := q
    dsimp only at h1
    subst h1
    exact h2
theorem floor_put_same (k v : Int) (fs : List (Int × Int)) : floorOf k (putF k v fs) = v := by
  unfold floorOf putF
  split
  · rename_i hk
    rw [List.find?_map]
    have e : ((fun p : Int × Int => decide (p.1 = k)) ∘ fun p : Int × Int => if p.1 = k then (k, v) else p) = fun p => decide (p.1 = k) := by
      funext p
      simp only [Function.comp]
      split <;> simp_all
    rw [e]
    cases hf : fs.find? (fun p => decide (p.1 = k)) with
    | none =>
      obtain ⟨p, hp, he⟩ := List.mem_map.1 hk
      have := List.find?_eq_none.1 hf p hp
      simp [he] at this
    | some q =>
      have h1 := List.find?_some hf
      simp at h1
      simp [h1]
  · rename_i hk
    have hn : fs.find? (fun p => decide (p.1 = k)) = none := by
      rw [List.find?_eq_none]
      intro p hp
      simp
      exact fun e => hk (List.mem_map.2 ⟨p, hp, e⟩)
    rw [List.find?_append, hn]
    simp
theorem floor_put_other {k k' : Int} (v : Int) (fs : List (Int × Int)) (h : k' ≠ k) : floorOf k' (putF k v fs) = floorOf k' fs := by
  unfold floorOf putF
  split
  · rw [List.find?_map]
    have e : ((fun p : Int × Int => decide (p.1 = k')) ∘ fun p : Int × Int => if p.1 = k then (k, v) else p) = fun p => decide (p.1 = k') := by
      funext p
      simp only [Function.comp]
      split
      · rename_i hp
        have h1 : ¬ k = k' := fun e => h e.symm
        simp [h1, hp]
      · rfl
    rw [e]
    cases hf : fs.find? (fun p => decide (p.1 = k')) with
    | none => rfl
    | some q =>
      have h1 := List.find?_some hf
      simp at h1
      have h2 : ¬ q.1 = k := fun e => h (h1.symm.trans e)
      simp [h2]
  · rw [List.find?_append]
    cases hf : fs.find? (fun p => decide (p.1 = k')) with
    | none =>
      have h1 : ¬ k = k' := fun e => h e.symm
      simp [h1]
    | some q => simp
theorem mem_putF (k v k' : Int) (fs : List (Int × Int)) (h : k' ∈ fs.map (·.1) ∨ k' = k) : k' ∈ (putF k v fs).map (·.1) := by
  unfold putF
  split
  · rename_i hk
    have e : (fs.map (fun p : Int × Int => if p.1 = k then (k, v) else p)).map (·.1) = fs.map (·.1) := by
      rw [List.map_map]
      refine List.map_congr_left (fun p _ => ?_)
      simp only [Function.comp]
      split
      · rename_i hp; exact hp.symm
      · rfl
    rw [e]
    rcases h with h | rfl
    · exact h
    · exact hk
  · rw [List.map_append]
    rcases h with h | rfl
    · exact List.mem_append.2 (.inl h)
    · exact List.mem_append.2 (.inr (by simp))
/-- a function's floor is that high -/
def Fl (fn epoch : Int) (fs : List (Int × Int)) : Prop := fn ∈ fs.map (·.1) ∧ epoch ≤ floorOf fn fs
theorem Fl.revoke {fn epoch : Int} {fs : List (Int × Int)} (h : Fl fn epoch fs) (k e : Int) : Fl fn epoch (putF k (max (floorOf k fs) e) fs) := by
  refine ⟨mem_putF _ _ _ _ (.inl h.1), ?_⟩
  by_cases hk : fn = k
  · subst hk
    rw [floor_put_same]
    have := h.2
    omega
  · rw [floor_put_other _ _ hk]
    exact h.2
theorem Fl.first (fn epoch : Int) (fs : List (Int × Int)) : Fl fn epoch (putF fn (max (floorOf fn fs) epoch) fs) := ⟨mem_putF _ _ _ _ (.inr rfl), by rw [floor_put_same]; omega⟩
/-- no entry is below a floor -/
def Cln (fs : List (Int × Int)) (ms : List (K2 × Ev)) : Prop := ∀ p ∈ ms, belowB fs p.2 = false
theorem Cln.rests {fn epoch : Int} {fs : List (Int × Int)} {ms : List (K2 × Ev)} (h : Cln fs ms) (hf : Fl fn epoch fs) : ms.any (restE fn epoch) = false := by
  cases ha : ms.any (restE fn epoch) with
  | false => rfl
  | true =>
    exfalso
    obtain ⟨p, hp, hr⟩ := List.any_eq_true.1 ha
    unfold restE at hr
    rw [Bool.and_eq_true, decide_eq_true_eq] at hr
    have hb := h p hp
    have : belowB fs p.2 = true := by
      unfold belowB
      refine List.any_eq_true.2 ⟨_, floor_mem hf.1, ?_⟩
      unfold underB
      rw [Bool.and_eq_true, decide_eq_true_eq]
      exact ⟨by have := hf.2; show p.2.ep < floorOf fn fs; omega, hr.2⟩
    rw [this] at hb
    cases hb
theorem Cln.filter {fs : List (Int × Int)} {ms : List (K2 × Ev)} (h : Cln fs ms) (c : K2 × Ev → Bool) : Cln fs (ms.filter c) := fun p hp => h p (List.mem_filter.1 hp).1
theorem Cln.revoked (fs : List (Int × Int)) (ms : List (K2 × Ev)) : Cln fs (ms.filter (fun p => !belowB fs p.2)) := fun p hp => by
  have := (List.mem_filter.1 hp).2
  simpa using this
theorem Cln.put {fs : List (Int × Int)} {ms : List (K2 × Ev)} (h : Cln fs ms) (k : K2) (x : Ev) (hx : belowB fs x = false) : Cln fs (putE k x ms) := fun p hp => by
  rcases mem_putE hp with rfl | ⟨hp, _⟩
  · exact hx
  · exact h p hp
theorem putE_len (k : K2) (x : Ev) (ms : List (K2 × Ev)) : (putE k x ms).length ≤ ms.length + 1 := by
  unfold putE
  split <;> simp
theorem was_put (k : K2) (x : Ev) (ms : List (K2 × Ev)) : getE k (putE k x ms) = some x := by
  unfold getE putE
  split
  · rename_i hk
    rw [List.find?_map]
    have e : ((fun p : K2 × Ev => decide (p.1 = k)) ∘ fun p : K2 × Ev => if p.1 = k then (k, x) else p) = fun p => decide (p.1 = k) := by
      funext p
      simp only [Function.comp]
      split <;> simp_all
    rw [e]
    cases hf : ms.find? (fun p => decide (p.1 = k)) with
    | none =>
      obtain ⟨p, hp, he⟩ := List.mem_map.1 hk
      have := List.find?_eq_none.1 hf p hp
      simp [he] at this
    | some q =>
      have h1 := List.find?_some hf
      simp at h1
      simp [h1]
  · rename_i hk
    have hn : ms.find? (fun p => decide (p.1 = k)) = none := by
      rw [List.find?_eq_none]
      intro p hp
      simp
      exact fun e => hk (List.mem_map.2 ⟨p, hp, e⟩)
    rw [List.find?_append, hn]
    simp
/-- where the cache stands -/
structure Cw (w0 w : World) (g b fb : Nat) (ms : List (K2 × Ev)) (fs : List (Int × Int)) : Prop where
  c : IsC w g b fb ms fs
  fr : Fr No w0 w
  hb : w0.heap.size ≤ b
  hfb : w0.heap.size ≤ fb
theorem Cw.keep {w0 w w' : World} {g b fb : Nat} {ms : List (K2 × Ev)} {fs : List (Int × Int)} (h : Cw w0 w g b fb ms fs) (hf : Fr No w w') : Cw w0 w' g b fb ms fs := ⟨h.c.keep hf, h.fr.fresh_no hf, h.hb, h.hfb⟩
theorem Cw.turn {w0 w w' : World} {g b fb : Nat} {ms ms' : List (K2 × Ev)} {fs fs' : List (Int × Int)} (h : Cw w0 w g b fb ms fs) (hc : IsC w' g b fb ms' fs') (hf : Fr (fun x => x = b ∨ x = fb) w w') : Cw w0 w' g b fb ms' fs' :=
  ⟨hc, h.fr.fresh hf (fun x e => e.elim (fun e => by rw [e]; exact h.hb) (fun e => by rw [e]; exact h.hfb)), h.hb, h.hfb⟩
theorem Cw.turn1 {w0 w w' : World} {g b fb : Nat} {ms ms' : List (K2 × Ev)} {fs fs' : List (Int × Int)} (h : Cw w0 w g b fb ms fs) (hc : IsC w' g b fb ms' fs') (hf : Fr (fun x => x = b) w w') : Cw w0 w' g b fb ms' fs' := h.turn hc (hf.mono (fun _ _ h => .inl h))
end Go.Proofs.Ytfmoagpfgkokcaa
