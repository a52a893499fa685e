import Derived.Test.YthcebkbedfaoeaaTellsC
/-! LeaseTells, part four: same; the document's Holders are the table's. -/
namespace Go.Proofs.Ythcebkbedfaoeaa
open Go.RowKit Go.Lib
set_option linter.unusedVariables false
set_option linter.unusedSimpArgs false
attribute [local go_sem ↓] Go.wp_at_zero Go.wp_at_succ
set_option maxRecDepth 100000 in
set_option maxHeartbeats 2000000 in
/-- the same leases: so 'same' says -/
theorem sameR_c (w : World) (v1 v2 : Value) (ys : List Ls) (h1 : Own 30 5 w v1 ys.length (lcells ys)) (h2 : Own 30 5 w v2 ys.length (lcells ys)) (hl : ys.length ≤ 100000) :
    Calls Try.prog 23 #[v1, v2] w fun e w' => e = .returned (.bool true) ∧ Fr No w w' := by
  obtain ⟨A1, c1, rfl, hc1, _⟩ := h1.slice
  obtain ⟨A2, c2, rfl, hc2, _⟩ := h2.slice
  have H1 := hid h1
  have H2 := hid h2
  have HF0 := hid (Fr.refl No w)
  clear h1 h2
  go_enter Try.func23, Try.ntmps23
  go_wp2_with fail
  go_loopg [13] ys.length (fun q v13 w' => ∃ j : Nat, v13 = .int .i64 j ∧ j ≤ ys.length ∧ q = ys.length - j ∧ Hid (Fr No w w'))
  case atStart => exact ⟨0, rfl, Nat.zero_le _, rfl, HF0⟩
  case round =>
    clear HF0
    obtain ⟨j, rfl, hj, hq, HF⟩ := hrel
    have HQ := hid hq
    clear hq
    by_cases d1 : j < ys.length
    · have d2 : (j : Int) < ys.length := by omega
      have hx : ys[j]? = some ys[j] := List.getElem?_eq_getElem d1
      generalize ys[j] = x at hx
      obtain ⟨gA, rfl, _, k0, k1, k2, k3, k4⟩ := rlease_at (H1.out.keep HF.out (fun x _ => not_no x)) hx
      obtain ⟨gB, rfl, _, m0, m1, m2, m3, m4⟩ := rlease_at (H2.out.keep HF.out (fun x _ => not_no x)) hx
      have HLA := hid (Nat.lt_of_lt_of_le (H1.out.lt gA (Of_some.2 rfl)) HF.out.size)
      have HLB := hid (Nat.lt_of_lt_of_le (H2.out.lt gB (Of_some.2 rfl)) HF.out.size)
      clear hx
      obtain ⟨b0, b1, b2, b3, b4⟩ := x
      dsimp only at k0 k1 k2 k3 k4 m0 m1 m2 m3 m4
      have KS := hid (show ∀ w', Fr No wr w' → w'.cell? ⟨gA, j * 5, none⟩ = some (.int .i64 b0) ∧ w'.cell? ⟨gA, j * 5 + 1, none⟩ = some (.int .i64 b1) ∧ w'.cell? ⟨gA, j * 5 + 2, none⟩ = some (.int .i64 b2) ∧ w'.cell? ⟨gA, j * 5 + 3, none⟩ = some (.int .i64 b3) ∧ w'.cell? ⟨gA, j * 5 + 4, none⟩ = some (.int .i64 b4) ∧ w'.cell? ⟨gB, j * 5, none⟩ = some (.int .i64 b0) ∧ w'.cell? ⟨gB, j * 5 + 1, none⟩ = some (.int .i64 b1) ∧ w'.cell? ⟨gB, j * 5 + 2, none⟩ = some (.int .i64 b2) ∧ w'.cell? ⟨gB, j * 5 + 3, none⟩ = some (.int .i64 b3) ∧ w'.cell? ⟨gB, j * 5 + 4, none⟩ = some (.int .i64 b4) from fun w' hf =>
        ⟨(hf.cell HLA.out (not_no _) _).trans k0, (hf.cell HLA.out (not_no _) _).trans k1, (hf.cell HLA.out (not_no _) _).trans k2, (hf.cell HLA.out (not_no _) _).trans k3, (hf.cell HLA.out (not_no _) _).trans k4, (hf.cell HLB.out (not_no _) _).trans m0, (hf.cell HLB.out (not_no _) _).trans m1, (hf.cell HLB.out (not_no _) _).trans m2, (hf.cell HLB.out (not_no _) _).trans m3, (hf.cell HLB.out (not_no _) _).trans m4⟩)
      have kne := fun w => neqL_run b0 b1 b2 b3 b4 w
      clear k0 k1 k2 k3 k4 m0 m1 m2 m3 m4
      go_upto_region 6 with fail
      refine wp_region_held_drew (S := (fun w' => w'.cell? ⟨gA, j * 5, none⟩ = some (.int .i64 b0) ∧ w'.cell? ⟨gA, j * 5 + 1, none⟩ = some (.int .i64 b1) ∧ w'.cell? ⟨gA, j * 5 + 2, none⟩ = some (.int .i64 b2) ∧ w'.cell? ⟨gA, j * 5 + 3, none⟩ = some (.int .i64 b3) ∧ w'.cell? ⟨gA, j * 5 + 4, none⟩ = some (.int .i64 b4) ∧ w'.cell? ⟨gB, j * 5, none⟩ = some (.int .i64 b0) ∧ w'.cell? ⟨gB, j * 5 + 1, none⟩ = some (.int .i64 b1) ∧ w'.cell? ⟨gB, j * 5 + 2, none⟩ = some (.int .i64 b2) ∧ w'.cell? ⟨gB, j * 5 + 3, none⟩ = some (.int .i64 b3) ∧ w'.cell? ⟨gB, j * 5 + 4, none⟩ = some (.int .i64 b4))) (by kernel_rfl) ?_ (fun hHeld => ?_)
      · (try dsimp only)
        (refine KS.out _ ?_; with_reducible first | exact (Fr.refl _ wr).drew | exact Fr.refl _ wr)
      refine wpAnyH_take (i := 0) (oi := ⟨_, _, _, _, _, _⟩) (v := ?_) rfl (by kernel_rfl) (by kernel_rfl) (by kernel_rfl) (fun _ _ _ h => h) (Or.inl ⟨by rfl, ?_⟩) (by assumption) ?_
      rotate_left
      · (intro w hSw; (try dsimp only at hSw); go_simp)
        try with_reducible rfl
      try simp only [Act.put, List.setIfInBounds_toArray, List.set_cons_zero, List.set_cons_succ]
      refine wpAnyH_take (i := 1) (oi := ⟨_, _, _, _, _, _⟩) (v := ?_) rfl (by kernel_rfl) (by kernel_rfl) (by kernel_rfl) (fun _ _ _ h => h) (Or.inl ⟨by rfl, ?_⟩) (by assumption) ?_
      rotate_left
      · (intro w hSw; (try dsimp only at hSw); go_simp)
        try with_reducible rfl
      try simp only [Act.put, List.setIfInBounds_toArray, List.set_cons_zero, List.set_cons_succ]
      refine wpAnyH_take (i := 2) (oi := ⟨_, _, _, _, _, _⟩) (v := ?_) rfl (by kernel_rfl) (by kernel_rfl) (by kernel_rfl) (fun _ _ _ h => h) (Or.inl ⟨by rfl, ?_⟩) (by assumption) ?_
      rotate_left
      · (intro w hSw; (try dsimp only at hSw); go_simp)
        try with_reducible rfl
      try simp only [Act.put, List.setIfInBounds_toArray, List.set_cons_zero, List.set_cons_succ]
      refine wpAnyH_take (i := 3) (oi := ⟨_, _, _, _, _, _⟩) (v := ?_) rfl (by kernel_rfl) (by kernel_rfl) (by kernel_rfl) (fun _ _ _ h => h) (Or.inl ⟨by rfl, ?_⟩) (by assumption) ?_
      rotate_left
      · (intro w hSw; (try dsimp only at hSw); go_simp)
        try with_reducible rfl
      try simp only [Act.put, List.setIfInBounds_toArray, List.set_cons_zero, List.set_cons_succ]
      refine wpAnyH_take (i := 4) (oi := ⟨_, _, _, _, _, _⟩) (v := ?_) rfl (by kernel_rfl) (by kernel_rfl) (by kernel_rfl) (fun _ _ _ h => h) (Or.inl ⟨by rfl, ?_⟩) (by assumption) ?_
      rotate_left
      · (intro w hSw; (try dsimp only at hSw); go_simp)
        try with_reducible rfl
      try simp only [Act.put, List.setIfInBounds_toArray, List.set_cons_zero, List.set_cons_succ]
      refine wpAnyH_take (i := 5) (oi := ⟨_, _, _, _, _, _⟩) (v := ?_) rfl (by kernel_rfl) (by kernel_rfl) (by kernel_rfl) (fun _ _ _ h => h) (Or.inl ⟨by rfl, ?_⟩) (by assumption) ?_
      rotate_left
      · (intro w hSw; (try dsimp only at hSw); go_simp)
        try with_reducible rfl
      try simp only [Act.put, List.setIfInBounds_toArray, List.set_cons_zero, List.set_cons_succ]
      refine wpAnyH_take (i := 6) (oi := ⟨_, _, _, _, _, _⟩) (v := ?_) rfl (by kernel_rfl) (by kernel_rfl) (by kernel_rfl) (fun _ _ _ h => h) (Or.inl ⟨by rfl, ?_⟩) (by assumption) ?_
      rotate_left
      · (intro w hSw; (try dsimp only at hSw); go_simp)
        try with_reducible rfl
      try simp only [Act.put, List.setIfInBounds_toArray, List.set_cons_zero, List.set_cons_succ]
      refine wpAnyH_take (i := 7) (oi := ⟨_, _, _, _, _, _⟩) (v := ?_) rfl (by kernel_rfl) (by kernel_rfl) (by kernel_rfl) (fun _ _ _ h => h) (Or.inl ⟨by rfl, ?_⟩) (by assumption) ?_
      rotate_left
      · (intro w hSw; (try dsimp only at hSw); go_simp)
        try with_reducible rfl
      try simp only [Act.put, List.setIfInBounds_toArray, List.set_cons_zero, List.set_cons_succ]
      refine wpAnyH_take (i := 8) (oi := ⟨_, _, _, _, _, _⟩) (v := ?_) rfl (by kernel_rfl) (by kernel_rfl) (by kernel_rfl) (fun _ _ _ h => h) (Or.inl ⟨by rfl, ?_⟩) (by assumption) ?_
      rotate_left
      · (intro w hSw; (try dsimp only at hSw); go_simp)
        try with_reducible rfl
      try simp only [Act.put, List.setIfInBounds_toArray, List.set_cons_zero, List.set_cons_succ]
      refine wpAnyH_done (by kernel_rfl) ?_ _
      have HF9 := hid (HF.out.fresh_no (Fr.refl No wr).drew)
      go_wp2_with fail
      go_roundg (ys.length - (j + 1))
      case measure => have := HQ.out; omega
      case rel => exact ⟨j + 1, by go_num, by omega, rfl, HF9⟩
    · have d2 : ¬ (j : Int) < ys.length := by omega
      go_wp2_with fail
      go_ret
      exact ⟨rfl, HF.out⟩
/-! ## the holders -/
theorem mem_rHold (ep s tick : Int) (ys : List Ls) (z : Int) : ∀ k : Nat, z ∈ rHold ep s tick ys k ↔ (0 ≤ z ∧ z < k ∧ ∃ x ∈ ys, x.node = z ∧ holdB ep s tick x = true)
  | 0 => by
    constructor
    · intro h; cases h
    · rintro ⟨h1, h2, _⟩; exfalso; omega
  | k + 1 => by
    show z ∈ rHold ep s tick ys k ++ (if ys.any (holdsAt ep s tick k) then [(k : Int)] else []) ↔ _
    rw [List.mem_append, mem_rHold ep s tick ys z k]
    have hany : ys.any (holdsAt ep s tick k) = true ↔ ∃ x ∈ ys, x.node = (k : Int) ∧ holdB ep s tick x = true := by
      rw [List.any_eq_true]
      constructor
      · rintro ⟨x, hx, h⟩
        unfold holdsAt at h
        rw [Bool.and_eq_true, beq_iff_eq] at h
        exact ⟨x, hx, h.1, h.2⟩
      · rintro ⟨x, hx, h1, h2⟩
        exact ⟨x, hx, by unfold holdsAt; rw [Bool.and_eq_true, beq_iff_eq]; exact ⟨h1, h2⟩⟩
    constructor
    · rintro (⟨h1, h2, h3⟩ | h)
      · exact ⟨h1, by push_cast; omega, h3⟩
      · split at h
        · rename_i hc
          rw [List.mem_singleton] at h
          subst h
          exact ⟨by omega, by push_cast; omega, hany.1 hc⟩
        · cases h
    · rintro ⟨h1, h2, h3⟩
      by_cases hz : z = k
      · subst hz
        right
        rw [if_pos (hany.2 h3)]
        exact List.mem_singleton.2 rfl
      · left
        exact ⟨h1, by push_cast at h2; omega, h3⟩
theorem rHold_asc (ep s tick : Int) (ys : List Ls) : ∀ k : Nat, (rHold ep s tick ys k).Pairwise (· < ·)
  | 0 => List.Pairwise.nil
  | k + 1 => by
    show (rHold ep s tick ys k ++ (if ys.any (holdsAt ep s tick k) then [(k : Int)] else [])).Pairwise (· < ·)
    rw [List.pairwise_append]
    refine ⟨rHold_asc ep s tick ys k, ?_, fun a ha b hb => ?_⟩
    · split
      · exact List.pairwise_singleton _ _
      · exact List.Pairwise.nil
    · split at hb
      · rw [List.mem_singleton] at hb
        subst hb
        exact ((mem_rHold ep s tick ys a k).1 ha).2.1
      · cases hb
/-- from a row in order, each once -/
theorem cmp_asc : ∀ (r : List Int) (p : Int), (p :: r).Pairwise (· ≤ ·) → (p :: cmp p r).Pairwise (· < ·)
  | [], p, _ => List.pairwise_singleton _ _
  | b :: r, p, h => by
    have h1 : p ≤ b := (List.pairwise_cons.1 h).1 b (List.mem_cons_self ..)
    have h2 : (b :: r).Pairwise (· ≤ ·) := (List.pairwise_cons.1 h).2
    by_cases e : b = p
    · subst e
      have : cmp b (b :: r) = cmp b r := by simp [cmp]
      rw [this]
      exact cmp_asc r b h2
    · have : cmp p (b :: r) = b :: cmp b r := by simp [cmp, e]
      rw [this]
      have hi := cmp_asc r b h2
      refine List.pairwise_cons.2 ⟨fun z hz => ?_, hi⟩
      rcases List.mem_cons.1 hz with rfl | hz
      · omega
      · have := (List.pairwise_cons.1 hi).1 z hz
        omega
theorem asc_unique : ∀ (xs ys : List Int), xs.Pairwise (· < ·) → ys.Pairwise (· < ·) → (∀ z, z ∈ xs ↔ z ∈ ys) → xs = ys := by
  intro xs ys h1 h2 hm
  have n1 : xs.Nodup := h1.imp (fun h => by omega)
  have n2 : ys.Nodup := h2.imp (fun h => by omega)
  have hp : xs.Perm ys := (List.perm_ext_iff_of_nodup n1 n2).2 hm
  refine List.Perm.eq_of_pairwise (le := fun x y => x < y) ?_ h1 h2 hp
  intro a b _ _ hab hba
  omega
theorem holdersL_asc (ep s tick : Int) (ms : List (K3 × Ls)) : (holdersL ep s tick ms).Pairwise (· < ·) := by
  unfold holdersL
  have h : (sorted (nodesOf ep s tick ms)).Pairwise (· ≤ ·) := by
    have := List.pairwise_mergeSort (le := fun x y : Int => decide (x ≤ y)) (fun a b c h1 h2 => by simp at h1 h2 ⊢; omega) (fun a b => by simp; omega) (nodesOf ep s tick ms)
    exact this.imp (fun h => by simpa using h)
  revert h
  cases sorted (nodesOf ep s tick ms) with
  | nil => intro _; exact List.Pairwise.nil
  | cons p r => intro h; exact cmp_asc r p h
theorem holders_eq {ms : List (K3 × Ls)} {ys : List Ls} (hp : ys.Perm (ms.map (·.2))) (N : Nat) (hn : ∀ p ∈ ms, 0 ≤ p.2.node ∧ p.2.node < N) (ep s tick : Int) : holdersL ep s tick ms = rHold ep s tick ys N := by
  refine asc_unique _ _ (holdersL_asc ep s tick ms) (rHold_asc ep s tick ys N) (fun z => ?_)
  rw [mem_holders, mem_rHold]
  unfold nodesOf
  rw [List.mem_map]
  constructor
  · rintro ⟨p, hpm, rfl⟩
    have h := List.mem_filter.1 hpm
    exact ⟨(hn p h.1).1, (hn p h.1).2, p.2, hp.mem_iff.2 (List.mem_map.2 ⟨p, h.1, rfl⟩), rfl, h.2⟩
  · rintro ⟨_, _, x, hx, rfl, hh⟩
    obtain ⟨p, hpm, rfl⟩ := List.mem_map.1 (hp.mem_iff.1 hx)
    exact ⟨p, List.mem_filter.2 ⟨hpm, hh⟩, rfl⟩
end Go.Proofs.Ythcebkbedfaoeaa
