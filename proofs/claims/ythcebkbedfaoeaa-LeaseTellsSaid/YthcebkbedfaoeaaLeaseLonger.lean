import Derived.Test.YthcebkbedfaoeaaLeaseStands
import Derived.Deep.DeepCutAuto
/-! LeaseLonger. -/
namespace Go.Proofs.Ythcebkbedfaoeaa
open Go.RowKit
set_option linter.unusedVariables false
set_option linter.unusedSimpArgs false
attribute [local go_sem ↓] Go.wp_at_zero Go.wp_at_succ

theorem all_one {w : World} {g b : Nat} {n l s : Int} {k : K3} {a0 a1 a2 a3 a4 : Int} (h : IsTab w g b n l s [(k, ⟨a0, a1, a2, a3, a4⟩)]) :
    Calls Try.prog 13 #[.pointer (some ⟨g, 0, none⟩)] w fun e w' => ∃ gv cv : Nat, e = .returned (.slice (some ⟨gv, 0, none⟩) 1 cv) ∧ 1 ≤ cv ∧ Fr No w w' ∧ w.heap.size ≤ gv ∧ gv < w'.heap.size ∧
      w'.cell? ⟨gv, 0, none⟩ = some (.int .i64 a0) ∧ w'.cell? ⟨gv, 1, none⟩ = some (.int .i64 a1) ∧ w'.cell? ⟨gv, 2, none⟩ = some (.int .i64 a2) ∧ w'.cell? ⟨gv, 3, none⟩ = some (.int .i64 a3) ∧ w'.cell? ⟨gv, 4, none⟩ = some (.int .i64 a4) := by
  refine (all_c h (by simp)).mono ?_
  rintro e w' ⟨v, ys, rfl, hp, _, ho, hf, hn⟩
  have hy : ys = [⟨a0, a1, a2, a3, a4⟩] := List.perm_singleton.1 hp
  subst hy
  rcases ho.2 with ⟨_, h0⟩ | ⟨gv, cap, cur, rfl, hb, hc, _⟩
  · simp at h0
  · obtain ⟨k0, k1, k2, k3, k4⟩ := lease_at (i := 0) ho rfl
    simp only [Nat.zero_mul, Nat.zero_add] at k0 k1 k2 k3 k4
    exact ⟨gv, cap, rfl, hc, hf, hn gv (Of_some.2 rfl), ho.lt gv (Of_some.2 rfl), k0, k1, k2, k3, k4⟩
theorem putT_one (k : K3) (x y : Ls) : putT k y [(k, x)] = [(k, y)] := by simp [putT]
theorem was_one (k : K3) (x : Ls) : wasOf k [(k, x)] = x := by simp [wasOf, getT]
theorem was_other {k k' : K3} (x : Ls) (h : k ≠ k') : wasOf k' [(k, x)] = zeroX := by
  unfold wasOf getT
  simp [h]
theorem putT_two {k k' : K3} (x y : Ls) (h : k ≠ k') : putT k' y [(k, x)] = [(k, x), (k', y)] := by
  unfold putT
  rw [if_neg (by simpa using fun e => h e.symm)]
  rfl
set_option maxRecDepth 100000 in
theorem guardL : (Try.prog.eqGuardType Try.prog.depth 30) = false := by kernel_rfl
set_option maxRecDepth 100000 in
theorem eqL_run (a0 a1 a2 a3 a4 : Int) (w : World) : (binOp .eql 30 (.agg #[.int .i64 a0, .int .i64 a1, .int .i64 a2, .int .i64 a3, .int .i64 a4]) (.agg #[.int .i64 a0, .int .i64 a1, .int .i64 a2, .int .i64 a3, .int .i64 a4])).run Try.prog w = .ok (.bool true) w := by
  have hS : Try.prog.underlying 30 = some (.struct (Try.prog.fieldsOf 30)) := by kernel_rfl
  have hp : Try.prog.stoodInHeld 30 = false := by kernel_rfl
  have hi := Try.underlying3
  rw [run_eql_struct, show (10000 : Nat) = 9999 + 1 from rfl, run_equalIn_agg w 9999 30 _ _ hS hp]
  simp only [Program.fieldsOf, Try.underlying30]
  go_simp
set_option maxRecDepth 100000 in
theorem neqL_run (a0 a1 a2 a3 a4 : Int) (w : World) : (binOp .neq 30 (.agg #[.int .i64 a0, .int .i64 a1, .int .i64 a2, .int .i64 a3, .int .i64 a4]) (.agg #[.int .i64 a0, .int .i64 a1, .int .i64 a2, .int .i64 a3, .int .i64 a4])).run Try.prog w = .ok (.bool false) w := by
  have hS : Try.prog.underlying 30 = some (.struct (Try.prog.fieldsOf 30)) := by kernel_rfl
  have hp : Try.prog.stoodInHeld 30 = false := by kernel_rfl
  have hi := Try.underlying3
  rw [run_neq_struct, show (10000 : Nat) = 9999 + 1 from rfl, run_equalIn_agg w 9999 30 _ _ hS hp]
  simp only [Program.fieldsOf, Try.underlying30]
  go_simp
set_option maxRecDepth 100000 in
set_option maxHeartbeats 4000000 in
theorem leaseLonger_c (a0 a1 b0 b1 n0 : Nat) (h0 : a0 ≤ 255) (h1 : a1 ≤ 255) (h2 : b0 ≤ 255) (h3 : b1 ≤ 255) (h4 : n0 ≤ 255) (w : World) :
    Calls Try.prog 6 #[.agg #[.int .u8 a0, .int .u8 a1], .agg #[.int .u8 b0, .int .u8 b1], .int .u8 n0] w (RetT w) := by
  obtain ⟨n, hn⟩ : ∃ n : Nat, (1 : Int) + (n0 : Int) % 50 = n := ⟨1 + n0 % 50, by omega⟩
  obtain ⟨ea, hea⟩ : ∃ n : Nat, (a0 : Int) % 6 = n := ⟨a0 % 6, by omega⟩
  obtain ⟨ta, hta⟩ : ∃ n : Nat, (a1 : Int) % 51 = n := ⟨a1 % 51, by omega⟩
  obtain ⟨eb, heb⟩ : ∃ n : Nat, (b0 : Int) % 6 = n := ⟨b0 % 6, by omega⟩
  obtain ⟨tb, htb⟩ : ∃ n : Nat, (b1 : Int) % 51 = n := ⟨b1 % 51, by omega⟩
  have c1 : 1 ≤ n := by omega
  have c2 : n ≤ 50 := by omega
  have c3 : ea ≤ 5 := by omega
  have c4 : ta ≤ 50 := by omega
  have c5 : eb ≤ 5 := by omega
  have c6 : tb ≤ 50 := by omega
  have HN := hid hn
  have HEA := hid hea
  have HTA := hid hta
  have HEB := hid heb
  have HTB := hid htb
  clear hn hea hta heb htb
  obtain ⟨W, hW⟩ : ∃ W, (w.alloc (.cells #[.int .u8 a0, .int .u8 a1] 48)).alloc (.cells #[.int .u8 b0, .int .u8 b1] 48) = W := ⟨_, rfl⟩
  have HW := hid hW
  have FW := hid (show Fr No w W from hW ▸ ((Fr.refl No w).alloc _).alloc _)
  have HA := hid (show Blk W w.heap.size 48 #[.int .u8 a0, .int .u8 a1] from hW ▸ (Blk.new w _ _).alloc _)
  have HB := hid (show Blk W (w.heap.size + 1) 48 #[.int .u8 b0, .int .u8 b1] from hW ▸ by
    have := Blk.new (w.alloc (.cells #[.int .u8 a0, .int .u8 a1] 48)) 48 #[.int .u8 b0, .int .u8 b1]
    rwa [show (w.alloc (.cells #[.int .u8 a0, .int .u8 a1] 48)).heap.size = w.heap.size + 1 by simp] at this)
  have KC := hid (show ∀ w', Fr No W w' → w'.cell? ⟨w.heap.size, 0, none⟩ = some (.int .u8 a0) ∧ w'.cell? ⟨w.heap.size, 1, none⟩ = some (.int .u8 a1) ∧ w'.cell? ⟨w.heap.size + 1, 0, none⟩ = some (.int .u8 b0) ∧ w'.cell? ⟨w.heap.size + 1, 1, none⟩ = some (.int .u8 b1) from fun w' hf => ⟨(HA.out.keep hf (not_no _)).cell 0, (HA.out.keep hf (not_no _)).cell 1, (HB.out.keep hf (not_no _)).cell 0, (HB.out.keep hf (not_no _)).cell 1⟩)
  have HLT := hid (show w.heap.size < W.heap.size ∧ w.heap.size + 1 < W.heap.size from ⟨HA.out.lt, HB.out.lt⟩)
  clear hW HA HB
  go_enter Try.func6, Try.ntmps6
  go_upto_region 1 with fail
  rw [HW.out]
  go_wp2_with fail
  rw [HN.out]
  refine (new_c _ 2 n 3 (by decide) (by decide) (by omega) (by omega) (by decide) (by decide)).mono ?_
  rintro e w1 ⟨g, b, rfl, tab1, f1, sg, sb⟩
  have HT1 := hid tab1
  have HF1 := hid f1
  have HSB := hid sb
  clear tab1 f1 sg sb
  obtain ⟨p0, p1, p2, p3⟩ := KC.out _ HF1.out
  go_wp2_with fail
  rw [HN.out, HEA.out, HTA.out]
  refine (grant_first HT1.out 0 1 2 ea ta (by omega) (by omega) (by omega) (by omega) (by omega) (by omega)).mono ?_
  rintro e w2 ⟨rfl, tab2, f2⟩
  have HT2 := hid (tab2.keep ((Fr.refl No w2).alloc (.cells #[.int .i64 0, .int .i64 1, .int .i64 2, .int .i64 ea, .int .i64 (ta + n)] 30)))
  have HF2 := hid ((HF1.out.fresh f2 (fun x e => by rw [e]; exact HSB.out)).alloc (.cells #[.int .i64 0, .int .i64 1, .int .i64 2, .int .i64 ea, .int .i64 (ta + n)] 30))
  have HX2 := hid (Blk.new w2 30 #[.int .i64 0, .int .i64 1, .int .i64 2, .int .i64 ea, .int .i64 (ta + n)])
  clear tab2 f2 p0 p1 p2 p3
  obtain ⟨p0, p1, p2, p3⟩ := KC.out _ HF2.out
  go_wp2_with fail
  rw [HEB.out, HTB.out]
  generalize hxb : w2.heap.size = xb at HX2 ⊢
  clear hxb
  by_cases hlt : eb < ea
  · refine (grant_epoch HT2.out 0 1 2 eb tb (by omega) (by omega) (by omega) (by omega) (by omega) (by rw [was_one]; show (eb : Int) < ea; omega)).mono ?_
    rintro e w4 ⟨rfl, f4⟩
    unfold zeroL
    have HT4 := hid ((HT2.out.keep f4).keep ((Fr.refl No w4).alloc (.cells #[.int .i64 0, .int .i64 0, .int .i64 0, .int .i64 0, .int .i64 0] 30)))
    have HF4 := hid ((HF2.out.fresh_no f4).alloc (.cells #[.int .i64 0, .int .i64 0, .int .i64 0, .int .i64 0, .int .i64 0] 30))
    have HX4 := hid ((HX2.out.keep f4 (not_no _)).alloc (.cells #[.int .i64 0, .int .i64 0, .int .i64 0, .int .i64 0, .int .i64 0] 30))
    clear f4 p0 p1 p2 p3
    obtain ⟨p0, p1, p2, p3⟩ := KC.out _ HF4.out
    have d1 : (b0 : Int) % 6 < (a0 : Int) % 6 := by rw [HEA.out, HEB.out]; omega
    go_upto_region 8 with fail
    obtain ⟨V, hV⟩ : ∃ V, w4.alloc (.cells #[.int .i64 0, .int .i64 0, .int .i64 0, .int .i64 0, .int .i64 0] 30) = V := ⟨_, rfl⟩
    rw [hV] at HT4 HF4 HX4 ⊢
    clear hV p0 p1 p2 p3 d1
    have KS := hid (show ∀ w', Fr No V w' → w'.cell? ⟨xb, 0, none⟩ = some (.int .i64 0) ∧ w'.cell? ⟨xb, 1, none⟩ = some (.int .i64 1) ∧ w'.cell? ⟨xb, 2, none⟩ = some (.int .i64 2) ∧ w'.cell? ⟨xb, 3, none⟩ = some (.int .i64 ea) ∧ w'.cell? ⟨xb, 4, none⟩ = some (.int .i64 (ta + n)) from fun w' hf => by
      have h := HX4.out.keep hf (not_no _)
      exact ⟨h.cell 0, h.cell 1, h.cell 2, h.cell 3, h.cell 4⟩)
    have keq := fun w => eqL_run 0 1 2 ea (ta + n) w
    refine wp_region_held_drew (S := (fun w' => w'.cell? ⟨xb, 0, none⟩ = some (.int .i64 0) ∧ w'.cell? ⟨xb, 1, none⟩ = some (.int .i64 1) ∧ w'.cell? ⟨xb, 2, none⟩ = some (.int .i64 2) ∧ w'.cell? ⟨xb, 3, none⟩ = some (.int .i64 ea) ∧ w'.cell? ⟨xb, 4, none⟩ = some (.int .i64 (ta + n)))) (by kernel_rfl) ?_ (fun hHeld => ?_)
    · (try dsimp only)
      (refine KS.out _ ?_; with_reducible first | exact HFN.out | exact HFN.out.drew | exact (Fr.refl _ V).drew | exact Fr.refl _ V)
    refine wpAnyH_take (i := 0) (oi := ⟨_, _, _, _, _, _⟩) (v := ?_) rfl (by kernel_rfl) (by kernel_rfl) (by kernel_rfl) (fun _ _ _ h => h) (Or.inl ⟨by rfl, ?_⟩) (by assumption) ?_
    rotate_left
    · (intro w hSw; (try dsimp only at hSw); go_simp)
      try with_reducible rfl
    try simp only [Act.put, List.setIfInBounds_toArray, List.set_cons_zero, List.set_cons_succ]
    refine wpAnyH_take (i := 1) (oi := ⟨_, _, _, _, _, _⟩) (v := ?_) rfl (by kernel_rfl) (by kernel_rfl) (by kernel_rfl) (fun _ _ _ h => h) (Or.inl ⟨by rfl, ?_⟩) (by assumption) ?_
    rotate_left
    · (intro w hSw; (try dsimp only at hSw); go_simp)
      try with_reducible rfl
    try simp only [Act.put, List.setIfInBounds_toArray, List.set_cons_zero, List.set_cons_succ]
    refine wpAnyH_take (i := 2) (oi := ⟨_, _, _, _, _, _⟩) (v := ?_) rfl (by kernel_rfl) (by kernel_rfl) (by kernel_rfl) (fun _ _ _ h => h) (Or.inl ⟨by rfl, ?_⟩) (by assumption) ?_
    rotate_left
    · (intro w hSw; (try dsimp only at hSw); go_simp)
      try with_reducible rfl
    try simp only [Act.put, List.setIfInBounds_toArray, List.set_cons_zero, List.set_cons_succ]
    refine wpAnyH_take (i := 3) (oi := ⟨_, _, _, _, _, _⟩) (v := ?_) rfl (by kernel_rfl) (by kernel_rfl) (by kernel_rfl) (fun _ _ _ h => h) (Or.inl ⟨by rfl, ?_⟩) (by assumption) ?_
    rotate_left
    · (intro w hSw; (try dsimp only at hSw); go_simp)
      try with_reducible rfl
    try simp only [Act.put, List.setIfInBounds_toArray, List.set_cons_zero, List.set_cons_succ]
    refine wpAnyH_ready (rs := [4]) (by kernel_rfl) (by simp) ?_
    refine AllReadyH.cons (o := ⟨_, _, _, _, _, _⟩) rfl (fun K hK => ?_) ?_
    rotate_left
    · exact AllReadyH.nil
    go_simp
    refine (all_one (HT4.out.keep (by with_reducible first | exact HFN.out | exact HFN.out.drew | exact (Fr.refl _ V).drew | exact Fr.refl _ V))).mono ?_
    rintro e wN ⟨gv, cv, rfl, hcv, fN, _, hgl, m0, m1, m2, m3, m4⟩
    have HFN := hid (show Fr No V wN from Fr.fresh_no (by with_reducible first | exact HFN.out | exact HFN.out.drew | exact (Fr.refl No V).drew | exact Fr.refl No V) fN)
    have hcv2 : (1 : Int) ≤ cv := by omega
    clear fN hcv
    try go_wp2_with fail
    refine hK.out _ _ ?_ (fun hHeld => ?_)
    · (try dsimp only)
      first | assumption | (refine KS.out _ ?_; with_reducible first | exact HFN.out | exact HFN.out.drew | exact (Fr.refl _ V).drew | exact Fr.refl _ V)
    clear hK K
    try simp only [Act.put, List.setIfInBounds_toArray, List.set_cons_zero, List.set_cons_succ]
    refine wpAnyH_take (i := 5) (oi := ⟨_, _, _, _, _, _⟩) (v := ?_) rfl (by kernel_rfl) (by kernel_rfl) (by kernel_rfl) (fun _ _ _ h => h) (Or.inl ⟨by rfl, ?_⟩) (by assumption) ?_
    rotate_left
    · (intro w hSw; (try dsimp only at hSw); go_simp)
      try with_reducible rfl
    try simp only [Act.put, List.setIfInBounds_toArray, List.set_cons_zero, List.set_cons_succ]
    refine wpAnyH_take (i := 6) (oi := ⟨_, _, _, _, _, _⟩) (v := ?_) rfl (by kernel_rfl) (by kernel_rfl) (by kernel_rfl) (fun _ _ _ h => h) (Or.inl ⟨by rfl, ?_⟩) (by assumption) ?_
    rotate_left
    · (intro w hSw; (try dsimp only at hSw); go_simp)
      try with_reducible rfl
    try simp only [Act.put, List.setIfInBounds_toArray, List.set_cons_zero, List.set_cons_succ]
    refine wpAnyH_take (i := 7) (oi := ⟨_, _, _, _, _, _⟩) (v := ?_) rfl (by kernel_rfl) (by kernel_rfl) (by kernel_rfl) (fun _ _ _ h => h) (Or.inl ⟨by rfl, ?_⟩) (by assumption) ?_
    rotate_left
    · (intro w hSw; (try dsimp only at hSw); go_simp)
      try with_reducible rfl
    try simp only [Act.put, List.setIfInBounds_toArray, List.set_cons_zero, List.set_cons_succ]
    refine wpAnyH_take (i := 8) (oi := ⟨_, _, _, _, _, _⟩) (v := ?_) rfl (by kernel_rfl) (by kernel_rfl) (by kernel_rfl) (fun _ _ _ h => h) (Or.inl ⟨by rfl, ?_⟩) (by assumption) ?_
    rotate_left
    · (intro w hSw; (try dsimp only at hSw); go_simp)
      try with_reducible rfl
    try simp only [Act.put, List.setIfInBounds_toArray, List.set_cons_zero, List.set_cons_succ]
    refine wpAnyH_take (i := 9) (oi := ⟨_, _, _, _, _, _⟩) (v := ?_) rfl (by kernel_rfl) (by kernel_rfl) (by kernel_rfl) (fun _ _ _ h => h) (Or.inl ⟨by rfl, ?_⟩) (by assumption) ?_
    rotate_left
    · (intro w hSw; (try dsimp only at hSw); go_simp)
      try with_reducible rfl
    try simp only [Act.put, List.setIfInBounds_toArray, List.set_cons_zero, List.set_cons_succ]
    refine wpAnyH_take (i := 13) (oi := ⟨_, _, _, _, _, _⟩) (v := ?_) rfl (by kernel_rfl) (by kernel_rfl) (by kernel_rfl) (fun _ _ _ h => h) (Or.inl ⟨by rfl, ?_⟩) (by assumption) ?_
    rotate_left
    · (intro w hSw; (try dsimp only at hSw); go_simp)
      try with_reducible rfl
    try simp only [Act.put, List.setIfInBounds_toArray, List.set_cons_zero, List.set_cons_succ]
    refine wpAnyH_ready (rs := [10]) (by kernel_rfl) (by simp) ?_
    refine AllReadyH.cons (o := ⟨_, _, _, _, _, _⟩) rfl (fun K hK => ?_) ?_
    rotate_left
    · exact AllReadyH.nil
    go_simp
    refine (all_one (HT4.out.keep (by with_reducible first | exact HFN.out | exact HFN.out.drew | exact (Fr.refl _ V).drew | exact Fr.refl _ V))).mono ?_
    rintro e wN ⟨gv, cv, rfl, hcv, fN, _, hgl, m0, m1, m2, m3, m4⟩
    have HFN := hid (show Fr No V wN from Fr.fresh_no (by with_reducible first | exact HFN.out | exact HFN.out.drew | exact (Fr.refl No V).drew | exact Fr.refl No V) fN)
    have hcv2 : (1 : Int) ≤ cv := by omega
    clear fN hcv
    try go_wp2_with fail
    refine hK.out _ _ ?_ (fun hHeld => ?_)
    · (try dsimp only)
      first | assumption | (refine KS.out _ ?_; with_reducible first | exact HFN.out | exact HFN.out.drew | exact (Fr.refl _ V).drew | exact Fr.refl _ V)
    clear hK K
    try simp only [Act.put, List.setIfInBounds_toArray, List.set_cons_zero, List.set_cons_succ]
    refine wpAnyH_take (i := 11) (oi := ⟨_, _, _, _, _, _⟩) (v := ?_) rfl (by kernel_rfl) (by kernel_rfl) (by kernel_rfl) (fun _ _ _ h => h) (Or.inl ⟨by rfl, ?_⟩) (by assumption) ?_
    rotate_left
    · (intro w hSw; (try dsimp only at hSw); go_simp)
      try with_reducible rfl
    try simp only [Act.put, List.setIfInBounds_toArray, List.set_cons_zero, List.set_cons_succ]
    refine wpAnyH_ready (rs := [12]) (by kernel_rfl) (by simp) ?_
    refine AllReadyH.cons (o := ⟨_, _, _, _, _, _⟩) rfl (fun K hK => ?_) ?_
    rotate_left
    · exact AllReadyH.nil
    go_simp
    refine hK.out _ _ ?_ (fun hHeld => ?_)
    · (try dsimp only)
      first | assumption | (refine KS.out _ ?_; with_reducible first | exact HFN.out | exact HFN.out.drew | exact (Fr.refl _ V).drew | exact Fr.refl _ V)
    clear hK K
    try simp only [Act.put, List.setIfInBounds_toArray, List.set_cons_zero, List.set_cons_succ]
    refine wpAnyH_take (i := 14) (oi := ⟨_, _, _, _, _, _⟩) (v := ?_) rfl (by kernel_rfl) (by kernel_rfl) (by kernel_rfl) (fun _ _ _ h => h) (Or.inl ⟨by rfl, ?_⟩) (by assumption) ?_
    rotate_left
    · (intro w hSw; (try dsimp only at hSw); go_simp)
      try with_reducible rfl
    try simp only [Act.put, List.setIfInBounds_toArray, List.set_cons_zero, List.set_cons_succ]
    refine wpAnyH_take (i := 15) (oi := ⟨_, _, _, _, _, _⟩) (v := ?_) rfl (by kernel_rfl) (by kernel_rfl) (by kernel_rfl) (fun _ _ _ h => h) (Or.inl ⟨by rfl, ?_⟩) (by assumption) ?_
    rotate_left
    · (intro w hSw; (try dsimp only at hSw); go_simp)
      try with_reducible rfl
    try simp only [Act.put, List.setIfInBounds_toArray, List.set_cons_zero, List.set_cons_succ]
    refine wpAnyH_take (i := 16) (oi := ⟨_, _, _, _, _, _⟩) (v := ?_) rfl (by kernel_rfl) (by kernel_rfl) (by kernel_rfl) (fun _ _ _ h => h) (Or.inl ⟨by rfl, ?_⟩) (by assumption) ?_
    rotate_left
    · (intro w hSw; (try dsimp only at hSw); go_simp)
      try with_reducible rfl
    try simp only [Act.put, List.setIfInBounds_toArray, List.set_cons_zero, List.set_cons_succ]
    refine wpAnyH_ready (rs := [17]) (by kernel_rfl) (by simp) ?_
    refine AllReadyH.cons (o := ⟨_, _, _, _, _, _⟩) rfl (fun K hK => ?_) ?_
    rotate_left
    · exact AllReadyH.nil
    go_simp
    refine (awake_c _).mono ?_
    rintro e wM ⟨rfl, fM⟩
    have HFN := hid (show Fr No V wM from HFN.out.fresh_no fM)
    clear fM
    try go_wp2_with fail
    refine hK.out _ _ ?_ (fun hHeld => ?_)
    · (try dsimp only)
      first | assumption | (refine KS.out _ ?_; with_reducible first | exact HFN.out | exact HFN.out.drew | exact (Fr.refl _ V).drew | exact Fr.refl _ V)
    clear hK K
    try simp only [Act.put, List.setIfInBounds_toArray, List.set_cons_zero, List.set_cons_succ]
    refine wpAnyH_take (i := 18) (oi := ⟨_, _, _, _, _, _⟩) (v := ?_) rfl (by kernel_rfl) (by kernel_rfl) (by kernel_rfl) (fun _ _ _ h => h) (Or.inl ⟨by rfl, ?_⟩) (by assumption) ?_
    rotate_left
    · (intro w hSw; (try dsimp only at hSw); go_simp)
      try with_reducible rfl
    try simp only [Act.put, List.setIfInBounds_toArray, List.set_cons_zero, List.set_cons_succ]
    refine wpAnyH_take (i := 19) (oi := ⟨_, _, _, _, _, _⟩) (v := ?_) rfl (by kernel_rfl) (by kernel_rfl) (by kernel_rfl) (fun _ _ _ h => h) (Or.inl ⟨by rfl, ?_⟩) (by assumption) ?_
    rotate_left
    · (intro w hSw; (try dsimp only at hSw); go_simp)
      try with_reducible rfl
    try simp only [Act.put, List.setIfInBounds_toArray, List.set_cons_zero, List.set_cons_succ]
    refine wpAnyH_done (by kernel_rfl) ?_ _
    have HZ := hid (HF4.out.fresh_no HFN.out)
    go_wp2_with fail
    go_ret
    exact ⟨rfl, FW.out.fresh_no HZ.out⟩
  · obtain ⟨tl, htl⟩ : ∃ tl : Nat, max ((tb : Int) + n) (ta + n) = tl := ⟨max (tb + n) (ta + n), by omega⟩
    have c7 : tl ≤ 200 := by omega
    obtain ⟨mx, hmx⟩ : ∃ mx : Nat, max ((a1 : Int) % 51) ((b1 : Int) % 51) = mx := ⟨max ta tb, by rw [HTA.out, HTB.out]; omega⟩
    have HTL := hid (show (mx : Int) + n = tl by rw [← hmx, ← htl, HTA.out, HTB.out]; omega)
    have c8 : mx ≤ 200 := by have := HTL.out; omega
    have hgr := grant_ok HT2.out 0 1 2 eb tb (by omega) (by omega) (by omega) (by omega) (by omega) (by omega) (by rw [was_one]; show (ea : Int) ≤ eb; omega)
    rw [was_one, putT_one] at hgr
    dsimp only at hgr
    rw [htl] at hgr
    refine hgr.mono ?_
    clear hgr
    rintro e w4 ⟨rfl, tab4, f4⟩
    unfold Ls.val Ls.cells
    dsimp only
    have HT4 := hid (tab4.keep ((Fr.refl No w4).alloc (.cells #[.int .i64 0, .int .i64 1, .int .i64 2, .int .i64 eb, .int .i64 tl] 30)))
    have HF4 := hid ((HF2.out.fresh f4 (fun x e => by rw [e]; exact HSB.out)).alloc (.cells #[.int .i64 0, .int .i64 1, .int .i64 2, .int .i64 eb, .int .i64 tl] 30))
    have HY4 := hid (Blk.new w4 30 #[.int .i64 0, .int .i64 1, .int .i64 2, .int .i64 eb, .int .i64 tl])
    clear tab4 f4 p0 p1 p2 p3 HX2
    obtain ⟨p0, p1, p2, p3⟩ := KC.out _ HF4.out
    have d1 : ¬ (b0 : Int) % 6 < (a0 : Int) % 6 := by rw [HEA.out, HEB.out]; omega
    have kx := fun (w : World) => run_max2 (P := Try.prog) (w := w) (k := .i64) (ats := #[3, 3]) (ty := 3) ((a1 : Int) % 51) ((b1 : Int) % 51)
    rw [hmx] at kx
    have HMX := hid hmx
    clear hmx htl
    go_upto_region 10 with fail
    rw [HTL.out]
    generalize hyb : w4.heap.size = yb at HY4 ⊢
    clear hyb
    obtain ⟨V, hV⟩ : ∃ V, w4.alloc (.cells #[.int .i64 0, .int .i64 1, .int .i64 2, .int .i64 eb, .int .i64 tl] 30) = V := ⟨_, rfl⟩
    rw [hV] at HT4 HF4 HY4 ⊢
    clear hV p0 p1 p2 p3 d1 kx
    have KS := hid (show ∀ w', Fr No V w' → w'.cell? ⟨yb, 0, none⟩ = some (.int .i64 0) ∧ w'.cell? ⟨yb, 1, none⟩ = some (.int .i64 1) ∧ w'.cell? ⟨yb, 2, none⟩ = some (.int .i64 2) ∧ w'.cell? ⟨yb, 3, none⟩ = some (.int .i64 eb) ∧ w'.cell? ⟨yb, 4, none⟩ = some (.int .i64 tl) ∧ w'.cell? ⟨w.heap.size + 1, 0, none⟩ = some (.int .u8 b0) from fun w' hf => by
      have h := HY4.out.keep hf (not_no _)
      exact ⟨h.cell 0, h.cell 1, h.cell 2, h.cell 3, h.cell 4, (KC.out _ (HF4.out.fresh_no hf)).2.2.1⟩)
    have kne := fun w => neqL_run 0 1 2 eb tl w
    have qeb : IntKind.i64.wrap ((b0 : Int).tmod 6) = eb := by rw [Int.tmod_eq_emod_of_nonneg (by omega), IntKind.wrap_i64]; have := HEB.out; omega
    refine wp_region_held_drew (S := (fun w' => w'.cell? ⟨yb, 0, none⟩ = some (.int .i64 0) ∧ w'.cell? ⟨yb, 1, none⟩ = some (.int .i64 1) ∧ w'.cell? ⟨yb, 2, none⟩ = some (.int .i64 2) ∧ w'.cell? ⟨yb, 3, none⟩ = some (.int .i64 eb) ∧ w'.cell? ⟨yb, 4, none⟩ = some (.int .i64 tl) ∧ w'.cell? ⟨w.heap.size + 1, 0, none⟩ = some (.int .u8 b0))) (by kernel_rfl) ?_ (fun hHeld => ?_)
    · (try dsimp only)
      (refine KS.out _ ?_; with_reducible first | exact HFN.out | exact HFN.out.drew | exact (Fr.refl _ V).drew | exact Fr.refl _ V)
    refine wpAnyH_take (i := 0) (oi := ⟨_, _, _, _, _, _⟩) (v := ?_) rfl (by kernel_rfl) (by kernel_rfl) (by kernel_rfl) (fun _ _ _ h => h) (Or.inl ⟨by rfl, ?_⟩) (by assumption) ?_
    rotate_left
    · (intro w hSw; (try dsimp only at hSw); go_simp)
      try with_reducible rfl
    try simp only [Act.put, List.setIfInBounds_toArray, List.set_cons_zero, List.set_cons_succ]
    refine wpAnyH_take (i := 1) (oi := ⟨_, _, _, _, _, _⟩) (v := ?_) rfl (by kernel_rfl) (by kernel_rfl) (by kernel_rfl) (fun _ _ _ h => h) (Or.inl ⟨by rfl, ?_⟩) (by assumption) ?_
    rotate_left
    · (intro w hSw; (try dsimp only at hSw); go_simp)
      try with_reducible rfl
    try simp only [Act.put, List.setIfInBounds_toArray, List.set_cons_zero, List.set_cons_succ]
    refine wpAnyH_take (i := 2) (oi := ⟨_, _, _, _, _, _⟩) (v := ?_) rfl (by kernel_rfl) (by kernel_rfl) (by kernel_rfl) (fun _ _ _ h => h) (Or.inl ⟨by rfl, ?_⟩) (by assumption) ?_
    rotate_left
    · (intro w hSw; (try dsimp only at hSw); go_simp)
      try with_reducible rfl
    try simp only [Act.put, List.setIfInBounds_toArray, List.set_cons_zero, List.set_cons_succ]
    refine wpAnyH_take (i := 3) (oi := ⟨_, _, _, _, _, _⟩) (v := ?_) rfl (by kernel_rfl) (by kernel_rfl) (by kernel_rfl) (fun _ _ _ h => h) (Or.inl ⟨by rfl, ?_⟩) (by assumption) ?_
    rotate_left
    · (intro w hSw; (try dsimp only at hSw); go_simp)
      try with_reducible rfl
    try simp only [Act.put, List.setIfInBounds_toArray, List.set_cons_zero, List.set_cons_succ]
    refine wpAnyH_take (i := 4) (oi := ⟨_, _, _, _, _, _⟩) (v := ?_) rfl (by kernel_rfl) (by kernel_rfl) (by kernel_rfl) (fun _ _ _ h => h) (Or.inl ⟨by rfl, ?_⟩) (by assumption) ?_
    rotate_left
    · (intro w hSw; (try dsimp only at hSw); go_simp)
      try with_reducible rfl
    try simp only [Act.put, List.setIfInBounds_toArray, List.set_cons_zero, List.set_cons_succ]
    refine wpAnyH_take (i := 5) (oi := ⟨_, _, _, _, _, _⟩) (v := ?_) rfl (by kernel_rfl) (by kernel_rfl) (by kernel_rfl) (fun _ _ _ h => h) (Or.inl ⟨by rfl, ?_⟩) (by assumption) ?_
    rotate_left
    · (intro w hSw; (try dsimp only at hSw); go_simp)
      try with_reducible rfl
    try simp only [Act.put, List.setIfInBounds_toArray, List.set_cons_zero, List.set_cons_succ]
    refine wpAnyH_take (i := 6) (oi := ⟨_, _, _, _, _, _⟩) (v := ?_) rfl (by kernel_rfl) (by kernel_rfl) (by kernel_rfl) (fun _ _ _ h => h) (Or.inl ⟨by rfl, ?_⟩) (by assumption) ?_
    rotate_left
    · (intro w hSw; (try dsimp only at hSw); go_simp)
      try with_reducible rfl
    try simp only [Act.put, List.setIfInBounds_toArray, List.set_cons_zero, List.set_cons_succ]
    refine wpAnyH_take (i := 7) (oi := ⟨_, _, _, _, _, _⟩) (v := ?_) rfl (by kernel_rfl) (by kernel_rfl) (by kernel_rfl) (fun _ _ _ h => h) (Or.inl ⟨by rfl, ?_⟩) (by assumption) ?_
    rotate_left
    · (intro w hSw; (try dsimp only at hSw); go_simp)
      try with_reducible rfl
    try simp only [Act.put, List.setIfInBounds_toArray, List.set_cons_zero, List.set_cons_succ]
    refine wpAnyH_take (i := 8) (oi := ⟨_, _, _, _, _, _⟩) (v := ?_) rfl (by kernel_rfl) (by kernel_rfl) (by kernel_rfl) (fun _ _ _ h => h) (Or.inl ⟨by rfl, ?_⟩) (by assumption) ?_
    rotate_left
    · (intro w hSw; (try dsimp only at hSw); go_simp)
      try with_reducible rfl
    try simp only [Act.put, List.setIfInBounds_toArray, List.set_cons_zero, List.set_cons_succ]
    refine wpAnyH_take (i := 9) (oi := ⟨_, _, _, _, _, _⟩) (v := ?_) rfl (by kernel_rfl) (by kernel_rfl) (by kernel_rfl) (fun _ _ _ h => h) (Or.inl ⟨by rfl, ?_⟩) (by assumption) ?_
    rotate_left
    · (intro w hSw; (try dsimp only at hSw); go_simp)
      try with_reducible rfl
    try simp only [Act.put, List.setIfInBounds_toArray, List.set_cons_zero, List.set_cons_succ]
    refine wpAnyH_take (i := 10) (oi := ⟨_, _, _, _, _, _⟩) (v := ?_) rfl (by kernel_rfl) (by kernel_rfl) (by kernel_rfl) (fun _ _ _ h => h) (Or.inl ⟨by rfl, ?_⟩) (by assumption) ?_
    rotate_left
    · (intro w hSw; (try dsimp only at hSw); go_simp)
      try with_reducible rfl
    try simp only [Act.put, List.setIfInBounds_toArray, List.set_cons_zero, List.set_cons_succ]
    refine wpAnyH_take (i := 11) (oi := ⟨_, _, _, _, _, _⟩) (v := ?_) rfl (by kernel_rfl) (by kernel_rfl) (by kernel_rfl) (fun _ _ _ h => h) (Or.inl ⟨by rfl, ?_⟩) (by assumption) ?_
    rotate_left
    · (intro w hSw; (try dsimp only at hSw); go_simp)
      try with_reducible rfl
    try simp only [Act.put, List.setIfInBounds_toArray, List.set_cons_zero, List.set_cons_succ]
    refine wpAnyH_take (i := 12) (oi := ⟨_, _, _, _, _, _⟩) (v := ?_) rfl (by kernel_rfl) (by kernel_rfl) (by kernel_rfl) (fun _ _ _ h => h) (Or.inl ⟨by rfl, ?_⟩) (by assumption) ?_
    rotate_left
    · (intro w hSw; (try dsimp only at hSw); go_simp)
      try with_reducible rfl
    try simp only [Act.put, List.setIfInBounds_toArray, List.set_cons_zero, List.set_cons_succ]
    refine wpAnyH_take (i := 13) (oi := ⟨_, _, _, _, _, _⟩) (v := ?_) rfl (by kernel_rfl) (by kernel_rfl) (by kernel_rfl) (fun _ _ _ h => h) (Or.inl ⟨by rfl, ?_⟩) (by assumption) ?_
    rotate_left
    · (intro w hSw; (try dsimp only at hSw); go_simp)
      try with_reducible rfl
    try simp only [Act.put, List.setIfInBounds_toArray, List.set_cons_zero, List.set_cons_succ]
    refine wpAnyH_take (i := 14) (oi := ⟨_, _, _, _, _, _⟩) (v := ?_) rfl (by kernel_rfl) (by kernel_rfl) (by kernel_rfl) (fun _ _ _ h => h) (Or.inl ⟨by rfl, ?_⟩) (by assumption) ?_
    rotate_left
    · (intro w hSw; (try dsimp only at hSw); go_simp)
      try with_reducible rfl
    try simp only [Act.put, List.setIfInBounds_toArray, List.set_cons_zero, List.set_cons_succ]
    refine wpAnyH_take (i := 15) (oi := ⟨_, _, _, _, _, _⟩) (v := ?_) rfl (by kernel_rfl) (by kernel_rfl) (by kernel_rfl) (fun _ _ _ h => h) (Or.inl ⟨by rfl, ?_⟩) (by assumption) ?_
    rotate_left
    · (intro w hSw; (try dsimp only at hSw); go_simp)
      try with_reducible rfl
    try simp only [Act.put, List.setIfInBounds_toArray, List.set_cons_zero, List.set_cons_succ]
    refine wpAnyH_take (i := 16) (oi := ⟨_, _, _, _, _, _⟩) (v := ?_) rfl (by kernel_rfl) (by kernel_rfl) (by kernel_rfl) (fun _ _ _ h => h) (Or.inl ⟨by rfl, ?_⟩) (by assumption) ?_
    rotate_left
    · (intro w hSw; (try dsimp only at hSw); go_simp)
      try with_reducible rfl
    try simp only [Act.put, List.setIfInBounds_toArray, List.set_cons_zero, List.set_cons_succ]
    refine wpAnyH_take (i := 17) (oi := ⟨_, _, _, _, _, _⟩) (v := ?_) rfl (by kernel_rfl) (by kernel_rfl) (by kernel_rfl) (fun _ _ _ h => h) (Or.inl ⟨by rfl, ?_⟩) (by assumption) ?_
    rotate_left
    · (intro w hSw; (try dsimp only at hSw); go_simp)
      try with_reducible rfl
    try simp only [Act.put, List.setIfInBounds_toArray, List.set_cons_zero, List.set_cons_succ]
    refine wpAnyH_take (i := 18) (oi := ⟨_, _, _, _, _, _⟩) (v := ?_) rfl (by kernel_rfl) (by kernel_rfl) (by kernel_rfl) (fun _ _ _ h => h) (Or.inl ⟨by rfl, ?_⟩) (by assumption) ?_
    rotate_left
    · (intro w hSw; (try dsimp only at hSw); go_simp)
      try with_reducible rfl
    try simp only [Act.put, List.setIfInBounds_toArray, List.set_cons_zero, List.set_cons_succ]
    refine wpAnyH_ready (rs := [19]) (by kernel_rfl) (by simp) ?_
    refine AllReadyH.cons (o := ⟨_, _, _, _, _, _⟩) rfl (fun K hK => ?_) ?_
    rotate_left
    · exact AllReadyH.nil
    go_simp
    refine (all_one (HT4.out.keep (by with_reducible first | exact HFN.out | exact HFN.out.drew | exact (Fr.refl _ V).drew | exact Fr.refl _ V))).mono ?_
    rintro e wN ⟨gv, cv, rfl, hcv, fN, _, hgl, m0, m1, m2, m3, m4⟩
    have HFN := hid (show Fr No V wN from Fr.fresh_no (by with_reducible first | exact HFN.out | exact HFN.out.drew | exact (Fr.refl No V).drew | exact Fr.refl No V) fN)
    have hcv2 : (1 : Int) ≤ cv := by omega
    clear fN hcv
    try go_wp2_with fail
    refine hK.out _ _ ?_ (fun hHeld => ?_)
    · (try dsimp only)
      first | assumption | (refine KS.out _ ?_; with_reducible first | exact HFN.out | exact HFN.out.drew | exact (Fr.refl _ V).drew | exact Fr.refl _ V)
    clear hK K
    try simp only [Act.put, List.setIfInBounds_toArray, List.set_cons_zero, List.set_cons_succ]
    refine wpAnyH_take (i := 20) (oi := ⟨_, _, _, _, _, _⟩) (v := ?_) rfl (by kernel_rfl) (by kernel_rfl) (by kernel_rfl) (fun _ _ _ h => h) (Or.inl ⟨by rfl, ?_⟩) (by assumption) ?_
    rotate_left
    · (intro w hSw; (try dsimp only at hSw); go_simp)
      try with_reducible rfl
    try simp only [Act.put, List.setIfInBounds_toArray, List.set_cons_zero, List.set_cons_succ]
    refine wpAnyH_take (i := 21) (oi := ⟨_, _, _, _, _, _⟩) (v := ?_) rfl (by kernel_rfl) (by kernel_rfl) (by kernel_rfl) (fun _ _ _ h => h) (Or.inl ⟨by rfl, ?_⟩) (by assumption) ?_
    rotate_left
    · (intro w hSw; (try dsimp only at hSw); go_simp)
      try with_reducible rfl
    try simp only [Act.put, List.setIfInBounds_toArray, List.set_cons_zero, List.set_cons_succ]
    refine wpAnyH_take (i := 22) (oi := ⟨_, _, _, _, _, _⟩) (v := ?_) rfl (by kernel_rfl) (by kernel_rfl) (by kernel_rfl) (fun _ _ _ h => h) (Or.inl ⟨by rfl, ?_⟩) (by assumption) ?_
    rotate_left
    · (intro w hSw; (try dsimp only at hSw); go_simp)
      try with_reducible rfl
    try simp only [Act.put, List.setIfInBounds_toArray, List.set_cons_zero, List.set_cons_succ]
    refine wpAnyH_take (i := 23) (oi := ⟨_, _, _, _, _, _⟩) (v := ?_) rfl (by kernel_rfl) (by kernel_rfl) (by kernel_rfl) (fun _ _ _ h => h) (Or.inl ⟨by rfl, ?_⟩) (by assumption) ?_
    rotate_left
    · (intro w hSw; (try dsimp only at hSw); go_simp)
      try with_reducible rfl
    try simp only [Act.put, List.setIfInBounds_toArray, List.set_cons_zero, List.set_cons_succ]
    refine wpAnyH_take (i := 24) (oi := ⟨_, _, _, _, _, _⟩) (v := ?_) rfl (by kernel_rfl) (by kernel_rfl) (by kernel_rfl) (fun _ _ _ h => h) (Or.inl ⟨by rfl, ?_⟩) (by assumption) ?_
    rotate_left
    · (intro w hSw; (try dsimp only at hSw); go_simp)
      try with_reducible rfl
    try simp only [Act.put, List.setIfInBounds_toArray, List.set_cons_zero, List.set_cons_succ]
    refine wpAnyH_take (i := 28) (oi := ⟨_, _, _, _, _, _⟩) (v := ?_) rfl (by kernel_rfl) (by kernel_rfl) (by kernel_rfl) (fun _ _ _ h => h) (Or.inl ⟨by rfl, ?_⟩) (by assumption) ?_
    rotate_left
    · (intro w hSw; (try dsimp only at hSw); go_simp)
      try with_reducible rfl
    try simp only [Act.put, List.setIfInBounds_toArray, List.set_cons_zero, List.set_cons_succ]
    refine wpAnyH_ready (rs := [25]) (by kernel_rfl) (by simp) ?_
    refine AllReadyH.cons (o := ⟨_, _, _, _, _, _⟩) rfl (fun K hK => ?_) ?_
    rotate_left
    · exact AllReadyH.nil
    go_simp
    refine (all_one (HT4.out.keep (by with_reducible first | exact HFN.out | exact HFN.out.drew | exact (Fr.refl _ V).drew | exact Fr.refl _ V))).mono ?_
    rintro e wN ⟨gv, cv, rfl, hcv, fN, _, hgl, m0, m1, m2, m3, m4⟩
    have HFN := hid (show Fr No V wN from Fr.fresh_no (by with_reducible first | exact HFN.out | exact HFN.out.drew | exact (Fr.refl No V).drew | exact Fr.refl No V) fN)
    have hcv2 : (1 : Int) ≤ cv := by omega
    clear fN hcv
    try go_wp2_with fail
    refine hK.out _ _ ?_ (fun hHeld => ?_)
    · (try dsimp only)
      first | assumption | (refine KS.out _ ?_; with_reducible first | exact HFN.out | exact HFN.out.drew | exact (Fr.refl _ V).drew | exact Fr.refl _ V)
    clear hK K
    try simp only [Act.put, List.setIfInBounds_toArray, List.set_cons_zero, List.set_cons_succ]
    refine wpAnyH_take (i := 26) (oi := ⟨_, _, _, _, _, _⟩) (v := ?_) rfl (by kernel_rfl) (by kernel_rfl) (by kernel_rfl) (fun _ _ _ h => h) (Or.inl ⟨by rfl, ?_⟩) (by assumption) ?_
    rotate_left
    · (intro w hSw; (try dsimp only at hSw); go_simp)
      try with_reducible rfl
    try simp only [Act.put, List.setIfInBounds_toArray, List.set_cons_zero, List.set_cons_succ]
    refine wpAnyH_ready (rs := [27]) (by kernel_rfl) (by simp) ?_
    refine AllReadyH.cons (o := ⟨_, _, _, _, _, _⟩) rfl (fun K hK => ?_) ?_
    rotate_left
    · exact AllReadyH.nil
    go_simp
    refine hK.out _ _ ?_ (fun hHeld => ?_)
    · (try dsimp only)
      first | assumption | (refine KS.out _ ?_; with_reducible first | exact HFN.out | exact HFN.out.drew | exact (Fr.refl _ V).drew | exact Fr.refl _ V)
    clear hK K
    try simp only [Act.put, List.setIfInBounds_toArray, List.set_cons_zero, List.set_cons_succ]
    refine wpAnyH_take (i := 29) (oi := ⟨_, _, _, _, _, _⟩) (v := ?_) rfl (by kernel_rfl) (by kernel_rfl) (by kernel_rfl) (fun _ _ _ h => h) (Or.inl ⟨by rfl, ?_⟩) (by assumption) ?_
    rotate_left
    · (intro w hSw; (try dsimp only at hSw); go_simp)
      try with_reducible rfl
    try simp only [Act.put, List.setIfInBounds_toArray, List.set_cons_zero, List.set_cons_succ]
    refine wpAnyH_take (i := 30) (oi := ⟨_, _, _, _, _, _⟩) (v := ?_) rfl (by kernel_rfl) (by kernel_rfl) (by kernel_rfl) (fun _ _ _ h => h) (Or.inl ⟨by rfl, ?_⟩) (by assumption) ?_
    rotate_left
    · (intro w hSw; (try dsimp only at hSw); go_simp)
      try with_reducible rfl
    try simp only [Act.put, List.setIfInBounds_toArray, List.set_cons_zero, List.set_cons_succ]
    refine wpAnyH_done (by kernel_rfl) ?_ _
    have HT5 := hid (HT4.out.keep HFN.out)
    have HF5 := hid (HF4.out.fresh_no HFN.out)
    clear qeb kne
    go_wp2_with fail
    have hgr := grant_ok HT5.out 0 1 3 0 0 (by omega) (by omega) (by omega) (by omega) (by omega) (by omega) (by rw [was_other _ (by decide)]; decide)
    rw [was_other _ (by decide), putT_two _ _ (by decide)] at hgr
    refine hgr.mono ?_
    clear hgr
    rintro e w7 ⟨rfl, tab7, f7⟩
    unfold Ls.val Ls.cells
    dsimp only
    obtain ⟨nz, hnz⟩ : ∃ nz : Int, max (0 + (n : Int)) zeroX.till = nz := ⟨_, rfl⟩
    rw [hnz] at tab7 ⊢
    have HT7 := hid (tab7.keep ((Fr.refl No w7).alloc (.cells #[.int .i64 0, .int .i64 1, .int .i64 3, .int .i64 0, .int .i64 nz] 30)))
    have HF7 := hid ((HF5.out.fresh f7 (fun x e => by rw [e]; exact HSB.out)).alloc (.cells #[.int .i64 0, .int .i64 1, .int .i64 3, .int .i64 0, .int .i64 nz] 30))
    clear tab7 f7 hnz
    go_wp2_with fail
    refine (all_c HT7.out (by simp)).mono ?_
    rintro e w8 ⟨v8, ys, rfl, hp, _, o8, f8, _⟩
    obtain ⟨A8, c8', rfl, _, _⟩ := o8.slice
    have hyl : ys.length = 2 := by have := hp.length_eq; simpa using this
    rw [hyl]
    have HF8 := hid (HF7.out.fresh_no f8)
    clear hyl hp o8 f8
    go_wp2_with fail
    refine (awake_c _).mono ?_
    rintro e w9 ⟨rfl, f9⟩
    have HF9 := hid (HF8.out.fresh_no f9)
    go_wp2_with fail
    go_ret
    exact ⟨rfl, FW.out.fresh_no HF9.out⟩
end Go.Proofs.Ythcebkbedfaoeaa
