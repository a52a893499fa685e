import Derived.Test.YthcebkbedfaoeaaTellsA
/-! LeaseTells, part two: the document's Acked, Expire. -/
namespace Go.Proofs.Ythcebkbedfaoeaa
open Go.RowKit Go.Lib
set_option linter.unusedVariables false
set_option linter.unusedSimpArgs false
attribute [local go_sem ↓] Go.wp_at_zero Go.wp_at_succ
/-- what stays, while it is gathered -/
structure Lf (w0 w : World) (g : Nat) (n l s : Int) (v : Value) (ys : List Ls) (u : Value) (zs : List Ls) : Prop where
  ref : IsRef w g n l s v ys
  left : Own 30 5 w u zs.length (lcells zs)
  new : ∀ x, Of u x → w0.heap.size ≤ x
  fr : Fr No w0 w
section
variable {w0 w w' : World} {g : Nat} {n l s : Int} {v u u' : Value} {ys zs : List Ls} {x : Ls}
theorem Lf.keep (h : Lf w0 w g n l s v ys u zs) (hf : Fr No w w') : Lf w0 w' g n l s v ys u zs := ⟨h.ref.keep hf, h.left.keep hf (fun x _ => not_no x), h.new, h.fr.fresh_no hf⟩
theorem Lf.append (h : Lf w0 w g n l s v ys u zs) (hg : g < w0.heap.size) (hv : ∀ x, Of v x → x < w0.heap.size) (ho : Own 30 5 w' u' (zs.length + 1) (lcells zs ++ x.cells.toList)) (hf : Fr (Of u) w w') (hn : ∀ k, Of u' k → Of u k ∨ k = w.heap.size) : Lf w0 w' g n l s v ys u' (zs ++ [x]) :=
  ⟨⟨h.ref.blk.keep hf (fun hk => by have := h.new g hk; omega), h.ref.own.keep hf (fun k hk hk2 => by have h1 := h.new k hk2; have h2 := hv k hk; omega)⟩,
    by rw [List.length_append, List.length_singleton, lcells, rows_append, rows_one]; exact ho,
    fun k hk => (hn k hk).elim (h.new k) (fun e => by rw [e]; exact h.fr.size), h.fr.fresh hf h.new⟩
/-- the row is set -/
theorem Lf.done (h : Lf w0 w g n l s v ys u zs) (hg : g < w0.heap.size) : IsRef (w.setCell ⟨g, 3, none⟩ u) g n l s u zs ∧ Fr (fun x => x = g) w0 (w.setCell ⟨g, 3, none⟩ u) :=
  ⟨⟨h.ref.blk.set_ 3 u, h.left.keep (Fr.setCell (S := fun k => k = g) (Fr.refl _ w) (p := ⟨g, 3, none⟩) (fun _ => rfl) u) (fun k hk e => by have := h.new k hk; omega)⟩,
    Fr.setCell (S := fun k => k = g) (h.fr.mono (fun x _ h => absurd h (not_no x))) (p := ⟨g, 3, none⟩) (fun _ => rfl) u⟩
end
theorem rlease_at {w : World} {A : Option Addr} {n c : Nat} {l : List Ls} (h : Own 30 5 w (.slice A n c) l.length (lcells l)) {i : Nat} {x : Ls} (hx : l[i]? = some x) :
    ∃ ga, A = some ⟨ga, 0, none⟩ ∧ n = l.length ∧ w.cell? ⟨ga, i * 5, none⟩ = some (.int .i64 x.node) ∧ w.cell? ⟨ga, i * 5 + 1, none⟩ = some (.int .i64 x.version) ∧ w.cell? ⟨ga, i * 5 + 2, none⟩ = some (.int .i64 x.fn) ∧ w.cell? ⟨ga, i * 5 + 3, none⟩ = some (.int .i64 x.epoch) ∧ w.cell? ⟨ga, i * 5 + 4, none⟩ = some (.int .i64 x.till) := by
  have hi : i < l.length := by
    rcases Nat.lt_or_ge i l.length with h | h
    · exact h
    · rw [List.getElem?_eq_none h] at hx; cases hx
  rcases h.2 with ⟨_, h0⟩ | ⟨ga, cap, cur, hv, _⟩
  · omega
  · injection hv with hA hn hc
    subst hA hn
    exact ⟨ga, rfl, rfl, lease_at h hx⟩
theorem take_next {ys : List Ls} {j : Nat} {x : Ls} (c : Ls → Bool) (hx : ys[j]? = some x) : (ys.take (j + 1)).filter c = (ys.take j).filter c ++ (if c x then [x] else []) := by
  rw [List.take_add_one, hx, List.filter_append]
  cases h : c x <;> simp [h]
set_option maxRecDepth 100000 in
set_option maxHeartbeats 4000000 in
theorem rAcked_c {w : World} {g : Nat} {n l s : Int} {v : Value} {ys : List Ls} (h : IsRef w g n l s v ys) (hl : ys.length ≤ 100000) (nd ep : Int) :
    Calls Try.prog 21 #[.pointer (some ⟨g, 0, none⟩), .int .i64 nd, .int .i64 ep] w fun e w' =>
      ∃ u, e = .returned (.int .i64 ((ys.length : Int) - ((ys.filter (fun x => !goesA nd ep x)).length : Nat))) ∧ IsRef w' g n l s u (ys.filter (fun x => !goesA nd ep x)) ∧ Fr (fun x => x = g) w w' ∧ ∀ x, Of u x → w.heap.size ≤ x := by
  have hg := hid h.blk.lt
  have HV := hid (show ∀ x, Of v x → x < w.heap.size from Own.lt h.own)
  have HL0 := hid (show Lf w w g n l s v ys (.slice none 0 0) [] from ⟨h, Own.nil _ _ _, fun x hx => absurd hx Of_none, Fr.refl No w⟩)
  obtain ⟨A, c, rfl, hc, hm⟩ := h.own.slice
  clear hm h
  go_enter Try.func21, Try.ntmps21
  go_wp2_with fail
  go_loopg [7, 8] ys.length (fun q vl vi w' => ∃ (j : Nat) (zs : List Ls), vi = .int .i64 j ∧ j ≤ ys.length ∧ q = ys.length - j ∧ Hid (zs = (ys.take j).filter (fun x => !goesA nd ep x)) ∧ Hid (Lf w w' g n l s (.slice A ys.length c) ys vl zs))
  case atStart => exact ⟨0, [], rfl, Nat.zero_le _, rfl, rfl, HL0⟩
  case round =>
    clear HL0
    obtain ⟨j, zs, rfl, hj, hq, HZ, HL⟩ := hrel
    have HQ := hid hq
    clear hq
    obtain ⟨c0, c1, c2, c3, cf⟩ := HL.out.ref.blk.four
    by_cases d1 : j < ys.length
    · have d2 : (j : Int) < ys.length := by omega
      have hx : ys[j]? = some ys[j] := List.getElem?_eq_getElem d1
      generalize ys[j] = x at hx
      obtain ⟨gA, rfl, _, k0, k1, k2, k3, k4⟩ := rlease_at HL.out.ref.own hx
      have HX := hid hx
      clear hx
      obtain ⟨b0, b1, b2, b3, b4⟩ := x
      dsimp only at k0 k1 k2 k3 k4
      have hcs : (¬ b0 = nd) ∨ (nd = b0 ∧ ep ≤ b3) ∨ (nd = b0 ∧ ¬ ep ≤ b3) := by
        by_cases e1 : nd = b0
        · by_cases e2 : ep ≤ b3
          · exact .inr (.inl ⟨e1, e2⟩)
          · exact .inr (.inr ⟨e1, e2⟩)
        · exact .inl (fun h => e1 h.symm)
      rcases hcs with e1 | ⟨rfl, e2⟩ | ⟨rfl, e2⟩
      · have HN := hid (show (fun x => !goesA nd ep x) (⟨b0, b1, b2, b3, b4⟩ : Ls) = true by unfold goesA; simp [e1])
        have HZN := hid (show zs ++ [⟨b0, b1, b2, b3, b4⟩] = (ys.take (j + 1)).filter (fun x => !goesA nd ep x) by rw [take_next _ HX.out, if_pos HN.out, HZ.out])
        have HZL := hid (show zs.length ≤ 100000 by rw [HZ.out]; exact Nat.le_trans (List.length_filter_le _ _) (Nat.le_trans (List.length_take_le _ _) (by omega)))
        have HLB := hid (HL.out.keep ((Fr.refl No wr).alloc (.cells (Ls.mk b0 b1 b2 b3 b4).cells 30)))
        go_wp2_with (at_builtin; go_loud (refine wpl_app _ rfl (.tmp 41) (.tmp 49) _ rfl 30 zeroL 5 40 Try.underlying38 infoL (by rfl) _ zs.length (lcells zs) rfl HLB.out.left _ 1 (Ls.mk b0 b1 b2 b3 b4).cells.toList rfl (Rd.lease _ _) (lc_one _) (by have := HZL.out; unfold maxLen; omega) (by have := HZL.out; omega) ?_; intro v9 w9 O9 F9 G9; have HL9 := hid (HLB.out.append hg.out HV.out O9 F9 G9); clear O9 F9 G9))
        go_roundg (ys.length - (j + 1))
        case measure => have := HQ.out; omega
        case rel => exact ⟨j + 1, _, by go_num, by omega, rfl, HZN, HL9⟩
      · have HN := hid (show (fun x => !goesA nd ep x) (⟨nd, b1, b2, b3, b4⟩ : Ls) = true by unfold goesA; simp; omega)
        have HZN := hid (show zs ++ [⟨nd, b1, b2, b3, b4⟩] = (ys.take (j + 1)).filter (fun x => !goesA nd ep x) by rw [take_next _ HX.out, if_pos HN.out, HZ.out])
        have HZL := hid (show zs.length ≤ 100000 by rw [HZ.out]; exact Nat.le_trans (List.length_filter_le _ _) (Nat.le_trans (List.length_take_le _ _) (by omega)))
        have HLB := hid (HL.out.keep ((Fr.refl No wr).alloc (.cells (Ls.mk nd b1 b2 b3 b4).cells 30)))
        go_wp2_with (at_builtin; go_loud (refine wpl_app _ rfl (.tmp 41) (.tmp 49) _ rfl 30 zeroL 5 40 Try.underlying38 infoL (by rfl) _ zs.length (lcells zs) rfl HLB.out.left _ 1 (Ls.mk nd b1 b2 b3 b4).cells.toList rfl (Rd.lease _ _) (lc_one _) (by have := HZL.out; unfold maxLen; omega) (by have := HZL.out; omega) ?_; intro v9 w9 O9 F9 G9; have HL9 := hid (HLB.out.append hg.out HV.out O9 F9 G9); clear O9 F9 G9))
        go_roundg (ys.length - (j + 1))
        case measure => have := HQ.out; omega
        case rel => exact ⟨j + 1, _, by go_num, by omega, rfl, HZN, HL9⟩
      · have HN := hid (show (fun x => !goesA nd ep x) (⟨nd, b1, b2, b3, b4⟩ : Ls) = false by unfold goesA; simp; omega)
        have HZN := hid (show zs = (ys.take (j + 1)).filter (fun x => !goesA nd ep x) by rw [take_next _ HX.out, if_neg (by have h := HN.out; dsimp only at h ⊢; rw [h]; simp), List.append_nil, HZ.out])
        go_wp2_with fail
        go_roundg (ys.length - (j + 1))
        case measure => have := HQ.out; omega
        case rel => exact ⟨j + 1, _, by go_num, by omega, rfl, HZN, HL⟩
    · have hj2 : j = ys.length := by omega
      subst hj2
      have hz := HZ.out
      rw [List.take_length] at hz
      subst hz
      have HZL := hid (show (ys.filter (fun x => !goesA nd ep x)).length ≤ ys.length from List.length_filter_le _ _)
      generalize hzz : ys.filter (fun x => !goesA nd ep x) = zs at HL HZL ⊢
      obtain ⟨Au, cu, hv1, hcu, _⟩ := HL.out.left.slice
      subst hv1
      have hzl : zs.length ≤ ys.length := HZL.out
      have HZZ := hid hzz
      clear d1 HZ hzz
      go_wp2_with fail
      go_ret
      have hd := HL.out.done hg.out
      rw [HZZ.out]
      exact ⟨_, rfl, hd.1, hd.2, HL.out.new⟩
set_option maxRecDepth 100000 in
set_option maxHeartbeats 4000000 in
theorem rExpire_c {w : World} {g : Nat} {n l s : Int} {v : Value} {ys : List Ls} (h : IsRef w g n l s v ys) (hl : ys.length ≤ 100000) (hs : 0 ≤ s ∧ s ≤ 1048576) (HT : Hid (∀ x ∈ ys, 0 ≤ x.till ∧ x.till ≤ 4611686018427387904)) (tick : Int) :
    Calls Try.prog 22 #[.pointer (some ⟨g, 0, none⟩), .int .i64 tick] w fun e w' =>
      ∃ u, e = .returned (.int .i64 ((ys.length : Int) - ((ys.filter (fun x => !goesE s tick x)).length : Nat))) ∧ IsRef w' g n l s u (ys.filter (fun x => !goesE s tick x)) ∧ Fr (fun x => x = g) w w' ∧ ∀ x, Of u x → w.heap.size ≤ x := by
  have hg := hid h.blk.lt
  have HV := hid (show ∀ x, Of v x → x < w.heap.size from Own.lt h.own)
  have HL0 := hid (show Lf w w g n l s v ys (.slice none 0 0) [] from ⟨h, Own.nil _ _ _, fun x hx => absurd hx Of_none, Fr.refl No w⟩)
  obtain ⟨A, c, rfl, hc, hm⟩ := h.own.slice
  clear hm h
  go_enter Try.func22, Try.ntmps22
  go_wp2_with fail
  go_loopg [5, 6] ys.length (fun q vl vi w' => ∃ (j : Nat) (zs : List Ls), vi = .int .i64 j ∧ j ≤ ys.length ∧ q = ys.length - j ∧ Hid (zs = (ys.take j).filter (fun x => !goesE s tick x)) ∧ Hid (Lf w w' g n l s (.slice A ys.length c) ys vl zs))
  case atStart => exact ⟨0, [], rfl, Nat.zero_le _, rfl, rfl, HL0⟩
  case round =>
    clear HL0
    obtain ⟨j, zs, rfl, hj, hq, HZ, HL⟩ := hrel
    have HQ := hid hq
    clear hq
    obtain ⟨c0, c1, c2, c3, cf⟩ := HL.out.ref.blk.four
    by_cases d1 : j < ys.length
    · have d2 : (j : Int) < ys.length := by omega
      have hx : ys[j]? = some ys[j] := List.getElem?_eq_getElem d1
      generalize ys[j] = x at hx
      obtain ⟨gA, rfl, _, k0, k1, k2, k3, k4⟩ := rlease_at HL.out.ref.own hx
      have HX := hid hx
      clear hx
      obtain ⟨b0, b1, b2, b3, b4⟩ := x
      dsimp only at k0 k1 k2 k3 k4
      have htl := HT.out _ (List.mem_of_getElem? HX.out)
      dsimp only at htl
      have HLD0 := hid HL.out
      clear HL
      by_cases e1 : tick < b4 + s
      · have HN := hid (show (fun x => !goesE s tick x) (⟨b0, b1, b2, b3, b4⟩ : Ls) = true by unfold goesE stands; simp [e1])
        have HZN := hid (show zs ++ [⟨b0, b1, b2, b3, b4⟩] = (ys.take (j + 1)).filter (fun x => !goesE s tick x) by rw [take_next _ HX.out, if_pos HN.out, HZ.out])
        have HZL := hid (show zs.length ≤ 100000 by rw [HZ.out]; exact Nat.le_trans (List.length_filter_le _ _) (Nat.le_trans (List.length_take_le _ _) (by omega)))
        go_upto_region 5 with fail
        go_quiet (fail)
        have HL := hid (HLD0.out.keep ((Fr.refl No wr).drewN nq))
        have HLB := hid (HL.out.keep ((Fr.refl No _).alloc (.cells (Ls.mk b0 b1 b2 b3 b4).cells 30)))
        obtain ⟨c0, c1, c2, c3, cf⟩ := HL.out.ref.blk.four
        obtain ⟨_, _, _, k0, k1, k2, k3, k4⟩ := rlease_at HL.out.ref.own HX.out
        go_wp2_with (at_builtin; go_loud (refine wpl_app _ rfl (.tmp 32) (.tmp 40) _ rfl 30 zeroL 5 40 Try.underlying38 infoL (by rfl) _ zs.length (lcells zs) rfl HLB.out.left _ 1 (Ls.mk b0 b1 b2 b3 b4).cells.toList rfl (Rd.lease _ _) (lc_one _) (by have := HZL.out; unfold maxLen; omega) (by have := HZL.out; omega) ?_; intro v9 w9 O9 F9 G9; have HL9 := hid (HLB.out.append hg.out HV.out O9 F9 G9); clear O9 F9 G9))
        go_roundg (ys.length - (j + 1))
        case measure => have := HQ.out; omega
        case rel => exact ⟨j + 1, _, by go_num, by omega, rfl, HZN, HL9⟩
      · have HN := hid (show (fun x => !goesE s tick x) (⟨b0, b1, b2, b3, b4⟩ : Ls) = false by unfold goesE stands; simp [e1])
        have HZN := hid (show zs = (ys.take (j + 1)).filter (fun x => !goesE s tick x) by rw [take_next _ HX.out, if_neg (by have h := HN.out; dsimp only at h ⊢; rw [h]; simp), List.append_nil, HZ.out])
        go_upto_region 5 with fail
        go_quiet (fail)
        have HL := hid (HLD0.out.keep ((Fr.refl No wr).drewN nq))
        have HLB := hid (HL.out.keep ((Fr.refl No _).alloc (.cells (Ls.mk b0 b1 b2 b3 b4).cells 30)))
        obtain ⟨c0, c1, c2, c3, cf⟩ := HL.out.ref.blk.four
        obtain ⟨_, _, _, k0, k1, k2, k3, k4⟩ := rlease_at HL.out.ref.own HX.out
        go_wp2_with fail
        go_roundg (ys.length - (j + 1))
        case measure => have := HQ.out; omega
        case rel => exact ⟨j + 1, _, by go_num, by omega, rfl, HZN, HL⟩
    · have hj2 : j = ys.length := by omega
      subst hj2
      have hz := HZ.out
      rw [List.take_length] at hz
      subst hz
      have HZL := hid (show (ys.filter (fun x => !goesE s tick x)).length ≤ ys.length from List.length_filter_le _ _)
      generalize hzz : ys.filter (fun x => !goesE s tick x) = zs at HL HZL ⊢
      obtain ⟨Au, cu, hv1, hcu, _⟩ := HL.out.left.slice
      subst hv1
      have hzl : zs.length ≤ ys.length := HZL.out
      have HZZ := hid hzz
      clear d1 HZ hzz
      go_wp2_with fail
      go_ret
      have hd := HL.out.done hg.out
      rw [HZZ.out]
      exact ⟨_, rfl, hd.1, hd.2, HL.out.new⟩
end Go.Proofs.Ythcebkbedfaoeaa
