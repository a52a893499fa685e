import Derived.Test.YtkglndlmjleomaaBoxH
import Derived.Deep.Cut
/-! Take, actor by actor. -/
namespace Go.Proofs.Ytkglndlmjleomaa
open Go.RowKit
set_option linter.unusedVariables false
set_option linter.unusedSimpArgs false

theorem Blk.store6 {w : World} {g : Nat} {t : TypeId} {c0 c1 c2 c3 c4 c5 : Value} (h : Blk w g t #[c0, c1, c2, c3, c4, c5]) (v0 v1 v2 v3 v4 v5 : Value) :
    Blk ((((((w.setCell ⟨g, 0, none⟩ v0).setCell ⟨g, 1, none⟩ v1).setCell ⟨g, 2, none⟩ v2).setCell ⟨g, 3, none⟩ v3).setCell ⟨g, 4, none⟩ v4).setCell ⟨g, 5, none⟩ v5) g t #[v0, v1, v2, v3, v4, v5] :=
  (((((h.set_ 0 v0).set_ 1 v1).set_ 2 v2).set_ 3 v3).set_ 4 v4).set_ 5 v5
def owns (g b : Nat) (ms : List (Int × Value)) (x : Nat) : Prop := x = g ∨ x = b ∨ ∃ k, Of (rowOf ms k) x
theorem IsBox.lt {w : World} {g b : Nat} {n : Int} {ms : List (Int × Value)} {f : Int → List MailA} (h : IsBox w g b n ms f) : ∀ x, owns g b ms x → x < w.heap.size := by
  rintro x (rfl | rfl | ⟨k, hk⟩)
  · exact h.blk.lt
  · obtain ⟨es, clock, hb, _⟩ := h.map
    rcases Nat.lt_or_ge x w.heap.size with h | h
    · exact h
    · rw [Array.getElem?_eq_none h] at hb; cases hb
  · exact (h.row k).lt x hk
theorem IsBox.keep_ {w w1 : World} {g b : Nat} {n : Int} {ms : List (Int × Value)} {f : Int → List MailA} {S : Nat → Prop} (h : IsBox w g b n ms f) (hf : Fr S w w1) (hS : ∀ x, owns g b ms x → ¬ S x) : IsBox w1 g b n ms f :=
  ⟨h.blk.keep hf (hS g (.inl rfl)), h.map.keep hf (hS b (.inr (.inl rfl))), fun k => (h.row k).keep hf (fun x hx => hS x (.inr (.inr ⟨k, hx⟩))), h.apart, h.dom⟩
/-- the row of an actor gone: nothing waits for it any more -/
theorem IsBox.gone {w w2 : World} {g b : Nat} {n : Int} {ms ms' : List (Int × Value)} {f : Int → List MailA} (h : IsBox w g b n ms f) (k : Int) (hm : IsMap w2 b ms') (h2 : Fr (fun x => x = b) w w2)
    (hs : rowOf ms' k = .slice none 0 0) (ho : ∀ k', k' ≠ k → rowOf ms' k' = rowOf ms k') (hd : ∀ k', k' ∈ ms'.map (·.1) ↔ k' ≠ k ∧ k' ∈ ms.map (·.1)) :
    IsBox w2 g b n ms' (fun x => if x = k then [] else f x) := by
  refine ⟨h.blk.keep h2 (h.blk.not_map h.map), hm, fun k' => ?_, fun k1 k2 hne x h1 h2' => ?_, fun k' => ?_⟩
  · by_cases hk : k' = k
    · subst hk
      rw [hs, if_pos rfl]
      exact Own.nil _ _ _
    · rw [ho k' hk, if_neg hk]
      exact (h.row k').keep h2 (fun x hx e => (h.row k').not_map h.map (e ▸ hx))
  · by_cases e1 : k1 = k
    · subst e1
      rw [hs] at h1
      exact absurd h1 Of_none
    · by_cases e2 : k2 = k
      · subst e2
        rw [hs] at h2'
        exact absurd h2' Of_none
      · rw [ho k1 e1] at h1
        rw [ho k2 e2] at h2'
        exact h.apart k1 k2 hne x h1 h2'
  · rw [hd k']
    by_cases hk : k' = k
    · simp [hk]
    · simp [hk, h.dom k']
theorem mem_del (ms : List (Int × Value)) (k k' : Int) : k' ∈ (delM k ms).map (·.1) ↔ k' ≠ k ∧ k' ∈ ms.map (·.1) := by
  unfold delM
  constructor
  · intro h
    obtain ⟨p, hp, rfl⟩ := List.mem_map.1 h
    rw [List.mem_filter] at hp
    exact ⟨by simpa using hp.2, List.mem_map.2 ⟨p, hp.1, rfl⟩⟩
  · rintro ⟨h1, h2⟩
    obtain ⟨p, hp, rfl⟩ := List.mem_map.1 h2
    exact List.mem_map.2 ⟨p, List.mem_filter.2 ⟨hp, by simpa using h1⟩, rfl⟩
set_option maxRecDepth 100000 in
set_option maxHeartbeats 400000 in
theorem take_nobody {w : World} {g b : Nat} {n : Int} {ms : List (Int × Value)} {f : Int → List MailA} (h : IsBox w g b n ms f) (to : Int) (h0 : f to = []) :
    Calls Try.prog 11 #[.pointer (some ⟨g, 0, none⟩), .int .i64 to] w fun e w' => e = .returned (.tuple #[mail0, .bool false]) ∧ Fr No w w' := by
  obtain ⟨W, hW⟩ : ∃ W, w.alloc (.cells #[.int .i64 0, .int .i64 0, .int .i64 0, .int .i64 0, .string ⟨#[]⟩, .slice none 0 0] 30) = W := ⟨_, rfl⟩
  have HW := hid hW
  have FW := hid (show Fr No w W from hW ▸ (Fr.refl No w).alloc _)
  have HB := hid (show Blk W w.heap.size 30 #[.int .i64 0, .int .i64 0, .int .i64 0, .int .i64 0, .string ⟨#[]⟩, .slice none 0 0] from hW ▸ Blk.new w _ _)
  have H := hid (h.keep FW.out)
  have H0 := hid h0
  clear h h0 hW
  go_enter Try.func11, Try.ntmps11
  go_wp2_with fail
  rw [HW.out]
  refine (look_nobody H.out to H0.out).mono ?_
  rintro e w1 ⟨rfl, F1⟩
  have HB1 := hid (HB.out.keep F1 (not_no _))
  have F2 := hid (FW.out.fresh_no F1)
  clear F1
  obtain ⟨V, hV⟩ : ∃ V, w1.alloc (.cells #[.int .i64 0, .int .i64 0, .int .i64 0, .int .i64 0, .string ⟨#[]⟩, .slice none 0 0] 30) = V := ⟨_, rfl⟩
  have HV := hid hV
  have HB6 := hid (show Blk V w1.heap.size 30 #[.int .i64 0, .int .i64 0, .int .i64 0, .int .i64 0, .string ⟨#[]⟩, .slice none 0 0] from hV ▸ Blk.new w1 _ _)
  have HB4 := hid (HB1.out.keep (hV ▸ (Fr.refl No w1).alloc _) (not_no _))
  have F3 := hid (show Fr No w V from hV ▸ F2.out.alloc _)
  clear hV
  unfold mail0
  go_upto_if 14 with fail
  rw [show (ByteArray.empty) = (⟨#[]⟩ : ByteArray) from rfl, HV.out]
  have m0 := HB4.out.cell 0
  have m1 := HB4.out.cell 1
  have m2 := HB4.out.cell 2
  have m3 := HB4.out.cell 3
  have m4 := HB4.out.cell 4
  have m5 := HB4.out.cell 5
  have mf := HB4.out.frozen
  have n0 := HB6.out.cell 0
  have n1 := HB6.out.cell 1
  have n2 := HB6.out.cell 2
  have n3 := HB6.out.cell 3
  have n4 := HB6.out.cell 4
  have n5 := HB6.out.cell 5
  go_wp2_with fail
  refine ⟨rfl, ?_⟩
  refine ⟨.tuple #[mail0, .bool false], ?_, ?_⟩
  · have hres : Try.f11.results = #[.cell 4 30, .tmp 5] := rfl
    simp [results, hres, asAddr]
    try go_simp
    try rfl
  · refine ⟨rfl, ?_⟩
    iterate 6 refine Fr.setCell ?_ (fun h => absurd h (by simp)) _
    exact F3.out
set_option maxRecDepth 100000 in
theorem slice_one (gr n cap : Nat) (hc : n + 1 ≤ cap) : ∃ O, (∀ w : World, (Instr.slice 39 (.slice (some ⟨gr, 0, none⟩) (n + 1) cap) (some (.int .i64 1)) none none).run Try.prog w = .ok (.slice (some ⟨gr, O, none⟩) n (cap - 1)) w) ∧
    ∀ (w : World) (m : MailA) (l : List MailA), l.length = n → Rd 6 w (.slice (some ⟨gr, 0, none⟩) (n + 1) cap) (n + 1) (cellsOf (m :: l)) → Rd 6 w (.slice (some ⟨gr, O, none⟩) n (cap - 1)) n (cellsOf l) := by
  refine ⟨if cap = 1 then 0 else 6, fun w => ?_, fun w m l hl h => ?_⟩
  · rw [Go.run_slice_l (P := Try.prog) (t := 39) (a := some ⟨gr, 0, none⟩) (len := n + 1) (cap := cap) (ht := Try.underlying39) (kl := .i64) (l := 1) (h0 := by omega) (h1 := by omega)]
    have hs : (sizeOf (Try.prog.elem 39)).run Try.prog w = .ok 6 w := by kernel_rfl
    rw [hs]
    simp only [Result.andThen, sliced]
    by_cases h1 : cap = 1
    · simp [h1]
    · simp [h1, Addr.add]
  · have := Rd.drop (m := 1) (c' := cap - 1) h (by omega) (by omega)
    have e : (cellsOf (m :: l)).drop (1 * 6) = cellsOf l := by simp [cellsOf, MailA.cells]
    rw [e] at this
    by_cases h1 : cap = 1
    · simpa [h1] using this
    · simpa [h1, Addr.add] using this
/-- what Take leaves -/
def RetTake (w : World) (g b : Nat) (n : Int) (ms : List (Int × Value)) (f : Int → List MailA) (to : Int) (m : MailA) (l : List MailA) : Ending → World → Prop := fun e w' =>
  e = .returned (.tuple #[.agg m.cells, .bool true]) ∧ ∃ ms', IsBox w' g b n ms' (fun x => if x = to then l else f x) ∧ Fr (fun x => x = b) w w' ∧ ∀ x, owns g b ms' x → owns g b ms x ∨ w.heap.size ≤ x
set_option maxRecDepth 100000 in
set_option maxHeartbeats 1000000 in
theorem take_some {w : World} {g b : Nat} {n : Int} {ms : List (Int × Value)} {f : Int → List MailA} (h : IsBox w g b n ms f) (to : Int) (m : MailA) (l : List MailA) (h0 : f to = m :: l) (hn : l.length < 64) :
    Calls Try.prog 11 #[.pointer (some ⟨g, 0, none⟩), .int .i64 to] w (RetTake w g b n ms f to m l) := by
  obtain ⟨W, hW⟩ : ∃ W, w.alloc (.cells #[.int .i64 0, .int .i64 0, .int .i64 0, .int .i64 0, .string ⟨#[]⟩, .slice none 0 0] 30) = W := ⟨_, rfl⟩
  have HW := hid hW
  have FW := hid (show Fr No w W from hW ▸ (Fr.refl No w).alloc _)
  have HB := hid (show Blk W w.heap.size 30 #[.int .i64 0, .int .i64 0, .int .i64 0, .int .i64 0, .string ⟨#[]⟩, .slice none 0 0] from hW ▸ Blk.new w _ _)
  have HLT := hid (h.lt)
  have HSZ := hid (show w.heap.size < W.heap.size from hW ▸ by simp)
  have H := hid (h.keep FW.out)
  have H0 := hid h0
  have HN := hid hn
  clear h h0 hW hn
  go_enter Try.func11, Try.ntmps11
  go_wp2_with fail
  rw [HW.out]
  refine (look_some H.out to m l H0.out).mono ?_
  rintro e w1 ⟨rfl, F1⟩
  have HB1 := hid (HB.out.keep F1 (not_no _))
  have H1 := hid (H.out.keep F1)
  have F2 := hid (FW.out.fresh_no F1)
  have S1 := hid F1.size
  clear F1
  obtain ⟨V, hV⟩ : ∃ V, w1.alloc (.cells #[.int .i64 m.from_, .int .i64 m.seq, .int .i64 m.by_, .int .i64 m.to, .string m.tag, .slice none 0 0] 30) = V := ⟨_, rfl⟩
  have HV := hid hV
  have HB6 := hid (show Blk V w1.heap.size 30 #[.int .i64 m.from_, .int .i64 m.seq, .int .i64 m.by_, .int .i64 m.to, .string m.tag, .slice none 0 0] from hV ▸ Blk.new w1 _ _)
  have HB4 := hid (HB1.out.keep (hV ▸ (Fr.refl No w1).alloc _) (not_no _))
  have F3 := hid (show Fr No w V from hV ▸ F2.out.alloc _)
  have H3 := hid (H1.out.keep (show Fr No w1 V from hV ▸ (Fr.refl No w1).alloc _))
  have HVS := hid (show W.heap.size ≤ V.heap.size from Nat.le_trans S1.out (hV ▸ by simp))
  clear hV HB1 H1
  unfold MailA.cells
  go_upto_if 14 with fail
  rw [HV.out]
  obtain ⟨gr, cap, hrow⟩ : ∃ gr cap, rowOf ms to = .slice (some ⟨gr, 0, none⟩) (l.length + 1) cap := by
    have hr := H3.out.row to
    rw [H0.out] at hr
    rcases hr.2 with ⟨_, hz⟩ | ⟨g', cap, cur, he, _⟩
    · simp at hz
    · exact ⟨g', cap, by rw [he]; simp⟩
  have hcap : l.length + 1 ≤ cap := by
    have hr := (H3.out.row to).slice
    rw [H0.out, hrow] at hr
    obtain ⟨A, c, he, hc, _⟩ := hr
    simp at he
    simp at hc
    omega
  obtain ⟨O, hsl, hrd⟩ := slice_one gr l.length cap hcap
  have HROW := hid hrow
  have KS := hid (show ∀ w', Fr (fun x => x = b) V w' → w'.cell? ⟨g, 1, none⟩ = some (.map (some b)) from fun w' hf => (H3.out.blk.keep hf (fun e => H3.out.blk.not_map H3.out.map e)).cell 1)
  have hl0 := look_eq (H3.out.map.keep ((Fr.refl No V).drew) (not_no _)) to
  have HRD := hid (show Rd 6 V.drew (.slice (some ⟨gr, O, none⟩) l.length (cap - 1)) l.length (cellsOf l) from by
    have hr := (H3.out.row to).rd
    rw [H0.out, hrow] at hr
    exact hrd V.drew m l rfl (hr.keep ((Fr.refl No V).drew) (fun k _ => not_no k)))
  rw [hrow] at hl0
  have HMV := hid (H3.out.map)
  clear hrow hrd
  go_wp2_with fail
  go_region_held_law (fun w' => w'.cell? ⟨g, 1, none⟩ = some (.map (some b)))
    (first
      | exact KS.out _ ((Fr.refl _ V).drew)
      | exact KS.out _ HK4.out
      | exact KS.out _ HK10.out
      | fail)
    (first
      | (go_at_call 28
         refine (cloneM_c _ _ _ l (by have := HN.out; omega) HRD.out).mono ?_
         rintro e w4 ⟨v9, rfl, O4, F4, G4⟩
         obtain ⟨A9, c9, hv9, hc9, _⟩ := O4.slice
         subst hv9
         have HN4 := hid (((Fr.refl No V).drew).fresh_no F4)
         have HK4 := hid (HN4.out.mono (S' := fun x => x = b) (fun x _ h => absurd h (not_no x)))
         obtain ⟨w10, hrun, M10, F10⟩ := run_put (P := Try.prog) (T := 44) (K := 2) (E := 39) Try.underlying44 Try.underlying2 (H3.out.map.keep HN4.out (not_no _)) to (.slice A9 l.length c9)
         have HK10 := hid (HK4.out.trans F10 (fun x _ h => h))
         have HR := hid (And.intro O4 (And.intro F4 (And.intro G4 (And.intro M10 F10))))
         clear O4 F4 G4 M10 F10)
      )
  all_goals
    have HB := hid (show b ≠ w.heap.size ∧ b ≠ w1.heap.size from ⟨fun e => HB4.out.not_map H3.out.map e.symm, fun e => HB6.out.not_map H3.out.map e.symm⟩)
    have HG4 := hid (show ∀ x, Of (.slice A9 l.length c9) x → V.heap.size ≤ x from fun x hx => HR.out.2.2.1 x hx)
    have hl10 := look_eq HR.out.2.2.2.1 to
    have HROW2 := hid (rowOf_put_same to (.slice A9 l.length c9) H3.out.map.nodup)
    rw [HROW2.out] at hl10
    have HC := HK10.out
    have g1 := KS.out _ HC
    by_cases hl : l = []
    · have e0 : ((l.length : Int) == 0) = true := by rw [hl]; rfl
      obtain ⟨w11, hdel, M11, F11⟩ := run_del (P := Try.prog) (T := 44) (K := 2) (E := 39) (ty := 0) Try.underlying44 Try.underlying2 HR.out.2.2.2.1 to
      have HK11 := hid (HC.trans F11 (fun x _ h => h))
      have HZ := hid (H3.out.gone to M11 HK11.out (rowOf_del_same to) (fun k' hk => (rowOf_del_other hk).trans (rowOf_put_other _ hk)) (fun k' => by rw [mem_del, mem_put]; constructor <;> (rintro ⟨a, b⟩; simp [a] at b ⊢; exact b)))
      replace HZ := hid (show IsBox w11 g b n (delM to (putM to (.slice A9 l.length c9) ms)) (fun x => if x = to then l else f x) from by
        have := HZ.out
        rwa [← hl] at this)
      have b4 := HB4.out.keep HK11.out (fun e => HB.out.1 e.symm)
      have b6 := HB6.out.keep HK11.out (fun e => HB.out.2 e.symm)
      have m0 := b4.cell 0
      have m1 := b4.cell 1
      have m2 := b4.cell 2
      have m3 := b4.cell 3
      have m4 := b4.cell 4
      have m5 := b4.cell 5
      have mf := b4.frozen
      have n0 := b6.cell 0
      have n1 := b6.cell 1
      have n2 := b6.cell 2
      have n3 := b6.cell 3
      have n4 := b6.cell 4
      have n5 := b6.cell 5
      clear b4 b6 M11 F11 HC hl0 hsl
      go_wp2_with fail
      have HKE := HK11
      refine ⟨rfl, ?_⟩
      refine ⟨.tuple #[.agg m.cells, .bool true], ?_, ?_⟩
      · have hres : Try.f11.results = #[.cell 4 30, .tmp 5] := rfl
        simp [results, hres, asAddr]
        try go_simp
        try rfl
      · have HO := hid (show ∀ x, owns g b (delM to (putM to (.slice A9 l.length c9) ms)) x → owns g b ms x ∨ V.heap.size ≤ x from fun x hx => by
          rcases hx with rfl | rfl | ⟨k, hk⟩
          · exact .inl (.inl rfl)
          · exact .inl (.inr (.inl rfl))
          · by_cases e : k = to
            · subst e
              rw [rowOf_del_same] at hk
              exact absurd hk Of_none
            · rw [rowOf_del_other e, rowOf_put_other _ e] at hk
              exact .inl (.inr (.inr ⟨k, hk⟩)))
        have FS : Fr (fun x => x = w.heap.size) w11 (((((((w11.setCell ⟨w.heap.size, 0, none⟩ (.int .i64 m.from_)).setCell ⟨w.heap.size, 1, none⟩ (.int .i64 m.seq)).setCell ⟨w.heap.size, 2, none⟩ (.int .i64 m.by_)).setCell ⟨w.heap.size, 3, none⟩ (.int .i64 m.to)).setCell ⟨w.heap.size, 4, none⟩ (.string m.tag)).setCell ⟨w.heap.size, 5, none⟩ (.slice none 0 0))) := by
          iterate 6 refine Fr.setCell (S := fun x => x = w.heap.size) ?_ (fun _ => rfl) _
          exact Fr.refl _ _
        have HV1 := HVS.out
        have HV2 := HSZ.out
        refine ⟨rfl, (delM to (putM to (.slice A9 l.length c9) ms)), HZ.out.keep_ FS (fun x hx e => ?_), ?_, fun x hx => (HO.out x hx).imp id (fun h => by omega)⟩
        · subst e
          rcases HO.out _ hx with h | h
          · have := HLT.out _ h
            omega
          · omega
        · exact ((F3.out.mono (S' := fun x => x = b) (fun x _ h => absurd h (not_no x))).trans HKE.out (fun x _ h => h)).trans FS (fun x hx e => absurd hx (by omega))
    · have l0 : 0 < l.length := List.length_pos_iff.2 hl
      have e0 : ((l.length : Int) == 0) = false := by rw [beq_eq_false_iff_ne]; omega
      have HZ := hid (H3.out.put to (.slice A9 l.length c9) l hl HR.out.1 (HN4.out.mono (fun x _ h => absurd h (not_no x))) (fun x hx => .inr (HG4.out x hx)) HR.out.2.2.2.1 HR.out.2.2.2.2)
      have b4 := HB4.out.keep HC (fun e => HB.out.1 e.symm)
      have b6 := HB6.out.keep HC (fun e => HB.out.2 e.symm)
      have m0 := b4.cell 0
      have m1 := b4.cell 1
      have m2 := b4.cell 2
      have m3 := b4.cell 3
      have m4 := b4.cell 4
      have m5 := b4.cell 5
      have mf := b4.frozen
      have n0 := b6.cell 0
      have n1 := b6.cell 1
      have n2 := b6.cell 2
      have n3 := b6.cell 3
      have n4 := b6.cell 4
      have n5 := b6.cell 5
      clear b4 b6 HC hl0 hsl
      go_wp2_with fail
      have HKE := HK10
      refine ⟨rfl, ?_⟩
      refine ⟨.tuple #[.agg m.cells, .bool true], ?_, ?_⟩
      · have hres : Try.f11.results = #[.cell 4 30, .tmp 5] := rfl
        simp [results, hres, asAddr]
        try go_simp
        try rfl
      · have HO := hid (show ∀ x, owns g b (putM to (.slice A9 l.length c9) ms) x → owns g b ms x ∨ V.heap.size ≤ x from fun x hx => by
          rcases hx with rfl | rfl | ⟨k, hk⟩
          · exact .inl (.inl rfl)
          · exact .inl (.inr (.inl rfl))
          · by_cases e : k = to
            · subst e
              rw [HROW2.out] at hk
              exact .inr (HG4.out x hk)
            · rw [rowOf_put_other _ e] at hk
              exact .inl (.inr (.inr ⟨k, hk⟩)))
        have FS : Fr (fun x => x = w.heap.size) w10 (((((((w10.setCell ⟨w.heap.size, 0, none⟩ (.int .i64 m.from_)).setCell ⟨w.heap.size, 1, none⟩ (.int .i64 m.seq)).setCell ⟨w.heap.size, 2, none⟩ (.int .i64 m.by_)).setCell ⟨w.heap.size, 3, none⟩ (.int .i64 m.to)).setCell ⟨w.heap.size, 4, none⟩ (.string m.tag)).setCell ⟨w.heap.size, 5, none⟩ (.slice none 0 0))) := by
          iterate 6 refine Fr.setCell (S := fun x => x = w.heap.size) ?_ (fun _ => rfl) _
          exact Fr.refl _ _
        have HV1 := HVS.out
        have HV2 := HSZ.out
        refine ⟨rfl, (putM to (.slice A9 l.length c9) ms), HZ.out.keep_ FS (fun x hx e => ?_), ?_, fun x hx => (HO.out x hx).imp id (fun h => by omega)⟩
        · subst e
          rcases HO.out _ hx with h | h
          · have := HLT.out _ h
            omega
          · omega
        · exact ((F3.out.mono (S' := fun x => x = b) (fun x _ h => absurd h (not_no x))).trans HKE.out (fun x _ h => h)).trans FS (fun x hx e => absurd hx (by omega))
end Go.Proofs.Ytkglndlmjleomaa
