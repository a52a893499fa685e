import Derived.Test.YthcebkbedfaoeaaSort
import Derived.Test.YthcebkbedfaoeaaMem
/-! slices.Compact at []int. -/
namespace Go.Proofs.Ythcebkbedfaoeaa
open Go.RowKit
set_option linter.unusedVariables false
set_option linter.unusedSimpArgs false

def cmp (p : Int) : List Int → List Int
  | [] => []
  | x :: r => if x = p then cmp p r else x :: cmp x r
def compactL : List Int → List Int
  | [] => []
  | x :: r => x :: cmp x r
theorem cmp_snoc : ∀ (r : List Int) (p b : Int), cmp p (r ++ [b]) = cmp p r ++ if r.getLastD p = b then [] else [b]
  | [], p, b => by
    by_cases h : b = p
    · simp [cmp, h]
    · have h' : ¬ p = b := fun e => h e.symm
      simp [cmp, h, h']
  | x :: r, p, b => by
    have ih := cmp_snoc r
    rw [List.cons_append, cmp, cmp]
    split
    · rename_i e
      subst e
      rw [ih, List.getLastD_cons]
    · rw [ih, List.getLastD_cons]
      rfl
theorem compact_snoc (xs : List Int) (a b : Int) : compactL (xs ++ [a] ++ [b]) = compactL (xs ++ [a]) ++ if a = b then [] else [b] := by
  cases xs with
  | nil =>
    by_cases h : b = a
    · simp [compactL, cmp, h]
    · have h' : ¬ a = b := fun e => h e.symm
      simp [compactL, cmp, h, h']
  | cons x r =>
    show x :: cmp x (r ++ [a] ++ [b]) = (x :: cmp x (r ++ [a])) ++ _
    rw [cmp_snoc]
    simp
theorem compact_step (zs : List Int) (j : Nat) (a b : Int) (ha : zs[j]? = some a) (hb : zs[j + 1]? = some b) : compactL (zs.take (j + 2)) = compactL (zs.take (j + 1)) ++ if a = b then [] else [b] := by
  rw [List.take_add_one (i := j + 1), hb, List.take_add_one (i := j), ha]
  exact compact_snoc _ _ _
theorem compact_len : ∀ (zs : List Int), (compactL zs).length ≤ zs.length
  | [] => Nat.le_refl _
  | x :: r => by
    have : ∀ (r : List Int) (p : Int), (cmp p r).length ≤ r.length := by
      intro r
      induction r with
      | nil => intro p; exact Nat.le_refl _
      | cons y r ih =>
        intro p
        rw [cmp]
        split
        · exact Nat.le_succ_of_le (ih p)
        · exact Nat.succ_le_succ (ih y)
    exact Nat.succ_le_succ (this r x)
theorem compact_one (zs : List Int) (h : zs.length < 2) : compactL zs = zs := by
  match zs, h with
  | [], _ => rfl
  | [x], _ => rfl
set_option maxRecDepth 100000 in
theorem slice_from (g n cap k : Nat) (hk : k < n) (hn : n ≤ cap) (w : World) : (Instr.slice 36 (.slice (some ⟨g, 0, none⟩) n cap) (some (.int .i64 k)) none none).run Try.prog w = .ok (.slice (some ⟨g, k, none⟩) (n - k) (cap - k)) w := by
  rw [Go.run_slice_l (P := Try.prog) (t := 36) (a := some ⟨g, 0, none⟩) (len := n) (cap := cap) (ht := Try.underlying36) (kl := .i64) (l := k) (h0 := by omega) (h1 := by omega)]
  have hs : (sizeOf (Try.prog.elem 36)).run Try.prog w = .ok 1 w := by kernel_rfl
  rw [hs]
  have h1 : ¬ cap = k := by omega
  by_cases h0 : k = 0
  · subst h0; simp [Result.andThen, sliced, Addr.add]
  · simp [Result.andThen, sliced, h1, Addr.add, h0]
set_option maxRecDepth 100000 in
theorem slice_to (g n cap k : Nat) (hk : k ≤ n) (hn : n ≤ cap) (w : World) : (Instr.slice 36 (.slice (some ⟨g, 0, none⟩) n cap) none (some (.int .i64 k)) none).run Try.prog w = .ok (.slice (some ⟨g, 0, none⟩) k cap) w := by
  rw [Go.run_slice_h (P := Try.prog) (t := 36) (a := some ⟨g, 0, none⟩) (len := n) (cap := cap) (ht := Try.underlying36) (kh := .i64) (h := k) (h0 := by omega) (h2 := by omega)]
  have hs : (sizeOf (Try.prog.elem 36)).run Try.prog w = .ok 1 w := by kernel_rfl
  rw [hs]
  simp [Result.andThen, sliced, Addr.add]
theorem ints_get {w : World} {g n c : Nat} {L : List Int} (h : Own 3 1 w (.slice (some ⟨g, 0, none⟩) n c) n (ints L)) {j : Nat} {a : Int} (ha : L[j]? = some a) : w.cell? ⟨g, j, none⟩ = some (.int .i64 a) :=
  Own.cells h (g := g) rfl j _ (by unfold ints; rw [List.getElem?_map, ha]; rfl)
set_option maxRecDepth 100000 in
set_option maxHeartbeats 4000000 in
theorem compact_long (w : World) (g c : Nat) (zs : List Int) (h : Own 3 1 w (.slice (some ⟨g, 0, none⟩) zs.length c) zs.length (ints zs)) (h2 : 2 ≤ zs.length) (hm : zs.length ≤ 1000000) :
    Calls Try.prog 31 #[.slice (some ⟨g, 0, none⟩) zs.length c] w fun e w' => e = .returned (.slice (some ⟨g, 0, none⟩) (compactL zs).length c) ∧ Own 3 1 w' (.slice (some ⟨g, 0, none⟩) (compactL zs).length c) (compactL zs).length (ints (compactL zs)) ∧ Fr (fun k => k = g) w w' := by
  have d1 : ¬ (zs.length : Int) < 2 := by omega
  obtain ⟨_, _, hcap, hcm, _, _⟩ := h.cur
  have H := hid h
  clear h
  generalize hn : zs.length = n at h2 hm d1 hcap H ⊢
  have HN := hid hn
  clear hn
  go_enter Try.func31, Try.ntmps31
  go_wp2_with fail
  go_loopg [3] (n - 1) (fun q v3 w' => ∃ (k m : Nat), v3 = .int .i64 k ∧ 1 ≤ k ∧ k ≤ n ∧ q = n - k ∧ Hid (compactL (zs.take k) = zs.take k) ∧ Hid (w' = w.drewN m))
  case atStart => exact ⟨1, 0, rfl, by omega, by omega, by omega, compact_one _ (by rw [List.length_take]; omega), rfl⟩
  case round =>
    obtain ⟨k, m, rfl, hk1, hk2, hq, HC, HWM⟩ := hrel
    have HQ := hid hq
    clear hq
    have hwm := HWM.out
    subst hwm
    by_cases e1 : k < n
    · have e2 : (k : Int) < n := by omega
      have hz : k < zs.length := by have := HN.out; omega
      have hz1 : k - 1 < zs.length := by omega
      obtain ⟨a, ha⟩ : ∃ a, zs[k - 1]? = some a := ⟨zs[k - 1], List.getElem?_eq_getElem hz1⟩
      obtain ⟨b, hb⟩ : ∃ b, zs[k]? = some b := ⟨zs[k], List.getElem?_eq_getElem hz⟩
      clear hz hz1
      have hw1 : IntKind.i64.wrap ((k : Int) - 1) = ((k - 1 : Nat) : Int) := by rw [IntKind.wrap_i64]; omega
      have e3 : k - 1 < n := by omega
      have HO := hid (fun j => H.out.keep ((Fr.refl No w).drewN j) (fun x _ => not_no x))
      have ca := ints_get H.out ha
      have cb := ints_get H.out hb
      have HA := hid ha
      have HB := hid hb
      clear ha hb
      have hcs := compact_step zs (k - 1) a b HA.out (by rw [show k - 1 + 1 = k by omega]; exact HB.out)
      rw [show k - 1 + 2 = k + 1 by omega, show k - 1 + 1 = k by omega] at hcs
      have HCS := hid hcs
      clear hcs
      by_cases c1 : b = a
      · subst c1
        have hsl := slice_from g n c k e1 hcap
        go_wp2_with fail
        go_quiet (fail)
        go_wp2_with fail
        have HE := hid (show compactL (zs.take (k + 1)) = zs.take k by
          have h := HCS.out
          simp at h
          rw [h, HC.out])
        go_loopg [3, 5] (n - k - 1) (fun q v3 v5 w' => ∃ (kk k2 : Nat) (L : List Int), v3 = .int .i64 kk ∧ v5 = .int .i64 k2 ∧ 1 ≤ k2 ∧ k + k2 ≤ n ∧ q = n - k - k2 ∧ kk + 1 ≤ k + k2 ∧ Hid (kk = (compactL (zs.take (k + k2))).length) ∧ Hid (L.length = n) ∧ Hid (L.take kk = compactL (zs.take (k + k2))) ∧ Hid (∀ j, k + k2 ≤ j + 1 → L[j]? = zs[j]?) ∧
          Hid (Own 3 1 w' (.slice (some ⟨g, 0, none⟩) n c) n (ints L)) ∧ Hid (Fr (fun x => x = g) w w'))
        case atStart =>
          have hkl : (zs.take k).length = k := by rw [List.length_take]; have := HN.out; omega
          refine ⟨k, 1, zs, rfl, rfl, by omega, by omega, rfl, by omega, ?_, HN.out, ?_, fun j _ => rfl, H.out.keep ((Fr.refl No w).drewN _) (fun x _ => not_no x), (Fr.refl _ w).drewN _⟩
          · show k = _
            rw [HE.out, hkl]
          · show zs.take k = _
            rw [HE.out]
        case round =>
          obtain ⟨kk, k2, L, rfl, rfl, hk21, hk22, hq2, hkk, HKL, HLN, HLT, HLR, HOW, HFW⟩ := hrel
          have HQ2 := hid hq2
          clear hq2 ca cb
          by_cases f1 : k + k2 < n
          · have f2 : (k2 : Int) < ((n - k : Nat) : Int) := by omega
            have f2' : k2 < n - k := by omega
            have hz : k + k2 < zs.length := by have := HN.out; omega
            have hz1 : k + (k2 - 1) < zs.length := by omega
            obtain ⟨x, hx⟩ : ∃ x, zs[k + (k2 - 1)]? = some x := ⟨zs[k + (k2 - 1)], List.getElem?_eq_getElem hz1⟩
            obtain ⟨y, hy⟩ : ∃ y, zs[k + k2]? = some y := ⟨zs[k + k2], List.getElem?_eq_getElem hz⟩
            have cx := ints_get HOW.out ((HLR.out (k + (k2 - 1)) (by omega)).trans hx)
            have cy := ints_get HOW.out ((HLR.out (k + k2) (by omega)).trans hy)
            have hcs2 := compact_step zs (k + (k2 - 1)) x y hx (by rw [show k + (k2 - 1) + 1 = k + k2 by omega]; exact hy)
            rw [show k + (k2 - 1) + 2 = k + (k2 + 1) by omega, show k + (k2 - 1) + 1 = k + k2 by omega] at hcs2
            have HC2 := hid hcs2
            have HY := hid hy
            have hw2 : IntKind.i64.wrap ((k2 : Int) - 1) = ((k2 - 1 : Nat) : Int) := by rw [IntKind.wrap_i64]; omega
            have f3 : k2 - 1 < n - k := by omega
            have hfz := HOW.out.frozen
            clear hz hz1 hx hy hcs2
            by_cases g1 : y = x
            · subst g1
              go_wp2_with fail
              go_quiet (fail)
              go_wp2_with fail
              have HO2 := hid (HOW.out.keep ((Fr.refl No wr).drewN nq) (fun x _ => not_no x))
              have HF2 := hid (HFW.out.drewN nq)
              go_roundg (n - k - (k2 + 1))
              case measure => have := HQ2.out; omega
              case rel =>
                refine ⟨kk, k2 + 1, L, rfl, by go_num, by omega, by omega, rfl, by omega, ?_, HLN, ?_, fun j hj => HLR.out j (by omega), HO2, HF2⟩
                · show kk = _
                  have h := HC2.out
                  simp at h
                  rw [h]
                  exact HKL.out
                · show L.take kk = _
                  have h := HC2.out
                  simp at h
                  rw [h]
                  exact HLT.out
            · have g2 : (y == x) = false := by rw [beq_eq_false_iff_ne]; exact g1
              have g3 : (y != x) = true := bne_iff_ne.2 g1
              have HG := hid g1
              have hkn : kk < n := by omega
              clear g1
              go_wp2_with fail
              go_quiet (fail)
              have HO2 := hid (HOW.out.keep ((Fr.refl No wr).drewN nq) (fun x _ => not_no x))
              have hfz2 := HO2.out.frozen
              have hck : ∃ u, wr.cell? ⟨g, kk, none⟩ = some u := ⟨_, ints_get HOW.out (List.getElem?_eq_getElem (show kk < L.length by rw [HLN.out]; exact hkn))⟩
              obtain ⟨u, hck⟩ := hck
              go_wp2_with fail
              have HO3 := hid (show Own 3 1 ((wr.drewN nq).setCell ⟨g, kk, none⟩ (.int .i64 y)) (.slice (some ⟨g, 0, none⟩) n c) n (ints (L.set kk y)) from by
                have := HO2.out.set kk (.int .i64 y)
                unfold ints at this ⊢
                rwa [List.map_set])
              have HF3 := hid ((HFW.out.drewN nq).setCell (p := ⟨g, kk, none⟩) (fun _ => rfl) (.int .i64 y))
              go_roundg (n - k - (k2 + 1))
              case measure => have := HQ2.out; omega
              case rel =>
                refine ⟨kk + 1, k2 + 1, L.set kk y, by go_num, by go_num, by omega, by omega, rfl, by omega, ?_, ?_, ?_, fun j hj => ?_, HO3, HF3⟩
                · show kk + 1 = _
                  rw [HC2.out, if_neg (fun e => HG.out e.symm), List.length_append, ← HKL.out]
                  rfl
                · show (L.set kk y).length = n
                  rw [List.length_set]; exact HLN.out
                · show (L.set kk y).take (kk + 1) = _
                  rw [HC2.out, if_neg (fun e => HG.out e.symm), ← HLT.out, List.take_add_one, List.take_set, List.getElem?_set_self (by rw [HLN.out]; exact hkn)]
                  rw [List.set_eq_of_length_le (by rw [List.length_take]; omega)]
                  rfl
                · rw [List.getElem?_set_ne (by omega)]
                  exact HLR.out j (by omega)
          · have hke : k + k2 = n := by omega
            have hkn : kk < n := by omega
            have HFIN := hid (show compactL (zs.take (k + k2)) = compactL zs by rw [List.take_of_length_le (by have := HN.out; omega)])
            have f2 : ¬ (k2 : Int) < ((n - k : Nat) : Int) := by omega
            have hs1 := slice_from g n c kk hkn hcap
            have hs2 := slice_to g n c kk (by omega) hcap
            obtain ⟨vs, hvs, hcl⟩ := run_clear_any (P := Try.prog) wr 36 3 (.int .i64 0) 1 Try.underlying36 Try.zeroValue3 rfl (by intro u hu; simp [Value.cells] at hu; subst hu; rfl) g kk (n - kk) (c - kk) (by omega) (by omega) (fun t ht => (HOW.out.room _ (by omega)).1) (fun t ht => (HOW.out.room _ (by omega)).2)
            have O1 := (HOW.out.first kk (by omega)).behind kk vs (by omega) (by omega)
            have HO1 := hid O1
            have HF1 := hid (Fr.setCells (S := fun k => k = g) HFW.out (fun _ => rfl) vs kk)
            clear O1 hsl
            go_wp2_with fail
            go_ret
            have hkl : (compactL zs).length = kk := by rw [← HFIN.out]; exact HKL.out.symm
            rw [hkl]
            refine ⟨rfl, ?_, HF1.out⟩
            have := HO1.out
            unfold ints at this ⊢
            rw [← List.map_take, Nat.mul_one, HLT.out, HFIN.out] at this
            exact this
      · have c2 : (b == a) = false := by rw [beq_eq_false_iff_ne]; exact c1
        have HT := hid (show compactL (zs.take (k + 1)) = zs.take (k + 1) by
          rw [HCS.out, if_neg (fun e => c1 e.symm), HC.out, List.take_add_one, HB.out]
          rfl)
        clear c1
        go_wp2_with fail
        go_quiet (fail)
        go_wp2_with fail
        go_roundg (n - (k + 1))
        case measure => have := HQ.out; omega
        case rel => exact ⟨k + 1, m + nq, by go_num, by omega, by omega, rfl, HT.out, rfl⟩
    · have HCE := hid (show compactL zs = zs by
        have := HC.out
        rwa [List.take_of_length_le (by have := HN.out; omega)] at this)
      have e2 : ¬ (k : Int) < n := by omega
      go_wp2_with fail
      go_ret
      rw [HCE.out, HN.out]
      exact ⟨rfl, H.out.keep ((Fr.refl No w).drewN m) (fun x _ => not_no x), (Fr.refl _ w).drewN m⟩
end Go.Proofs.Ythcebkbedfaoeaa
