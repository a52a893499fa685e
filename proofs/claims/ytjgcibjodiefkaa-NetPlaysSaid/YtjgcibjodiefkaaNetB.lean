import Derived.Test.YtjgcibjodiefkaaNetA
/-! The contracts of package net: Take, Drop. -/
namespace Go.Proofs.Ytjgcibjodiefkaa
open Go.RowKit
set_option linter.unusedVariables false
set_option linter.unusedSimpArgs false

theorem infoGram : ∃ i, Try.prog.info? 29 = some i ∧ i.size = 3 := by
  have h : (Try.prog.info? 29).map (fun i => i.size) = some 3 := by kernel_rfl
  cases h2 : Try.prog.info? 29 with
  | none => rw [h2] at h; cases h
  | some i => rw [h2] at h; exact ⟨i, rfl, by simpa using h⟩

set_option maxRecDepth 100000 in
set_option maxHeartbeats 1000000 in
theorem delete_c {w : World} {b n c : Nat} {xs : List Value} (h : Own 29 3 w (.slice (some ⟨b, 0, none⟩) n c) n xs) (h1 : ∀ u ∈ xs, u.oneCell' = true) (i j : Nat) (hij : j = i + 1) (hi : i < n) :
    Calls Try.prog 35 #[.slice (some ⟨b, 0, none⟩) n c, .int .i64 i, .int .i64 j] w fun e w' => e = .returned (.slice (some ⟨b, 0, none⟩) (i + (n - j)) c) ∧
      Own 29 3 w' (.slice (some ⟨b, 0, none⟩) (i + (n - j)) c) (i + (n - j)) (xs.take (i * 3) ++ xs.drop (j * 3)) ∧ Fr (fun k => k = b) w w' := by
  obtain ⟨i0, hi0, hs0⟩ := infoGram
  obtain ⟨_, _, hnc, hcm, _, _⟩ := h.cur
  have hic : i ≤ c := by omega
  have hjc : j ≤ c := by omega
  have hjn : j ≤ n := by omega
  have hin : i ≤ n := by omega
  have hne : ¬ i = j := by omega
  have hcm' : c ≤ 9223372036854775807 := by simp only [maxLen] at hcm; omega
  obtain ⟨news, hnews⟩ : ∃ news, news = xs.drop (j * 3) := ⟨_, rfl⟩
  have HL := hid (show news.length = (n - j) * 3 by rw [hnews, List.length_drop, h.1]; omega)
  have H1 := hid (show ∀ u ∈ news, u.oneCell' = true from fun u hu => h1 u (List.mem_of_mem_drop (hnews ▸ hu)))
  have hd : Fr No w w.drew := (Fr.refl No w).drew
  have hO : Own 29 3 w.drew (.slice (some ⟨b, 0, none⟩) n c) n xs := h.keep hd (fun k _ => not_no k)
  obtain ⟨A, hA, hsrc⟩ : ∃ A : Addr, (if c = j then (some ⟨b, 0, none⟩ : Option Addr) else some ⟨b, j * 3, none⟩) = some A ∧ Hid (∀ t u, news[t]? = some u → w.drew.cell? (A.add t) = some u) := by
    by_cases h : c = j
    · refine ⟨⟨b, 0, none⟩, by simp [h], fun t u hu => ?_⟩
      have h0 : news.length = 0 := by rw [HL.out]; omega
      rw [List.length_eq_zero_iff.1 h0] at hu
      simp at hu
    · refine ⟨⟨b, j * 3, none⟩, by simp [h], fun t u hu => ?_⟩
      rw [hnews, List.getElem?_drop] at hu
      rw [add_off]
      exact hO.cells (g := b) rfl _ _ hu
  have s3 : Hid (∀ t, t < news.length → (w.drew.cell? ⟨b, 0 + i * 3 + t, none⟩).isSome = true ∧ w.drew.frozen? ⟨b, 0 + i * 3 + t, none⟩ = false) := by
    intro t ht
    rw [HL.out] at ht
    exact hO.room _ (by omega)
  obtain ⟨W1, hW1⟩ : ∃ W1, W1 = w.drew.setCells b (0 + i * 3) news := ⟨_, rfl⟩
  have O1 : Own 29 3 W1 (.slice (some ⟨b, 0, none⟩) (i + (n - j)) c) (i + (n - j)) (xs.take (i * 3) ++ news) := by
    rw [hW1, Nat.zero_add]
    exact hO.lay_ i (n - j) news (by omega) HL.out (by omega)
  have F1 : Fr (fun k => k = b) w W1 := by rw [hW1]; exact Fr.setCells (S := fun k => k = b) ((Fr.refl _ w).drew) (fun _ => rfl) _ _
  have HW := hid hW1
  have HO1 := hid O1
  have HF1 := hid F1
  have HN := hid hnews
  obtain ⟨vs, hvs, hcl⟩ : ∃ vs : List Value, vs.length = (n - (i + (n - j))) * 3 ∧ ∀ ty, (Builtin.clear_ #[38] ty #[.slice (some ⟨b, (i + (n - j)) * 3, none⟩) (n - (i + (n - j))) (c - (i + (n - j)))]).run Try.prog W1 = .ok (.tuple #[]) (W1.setCells b ((i + (n - j)) * 3) vs) := by
    exact run_clear_any (P := Try.prog) W1 38 29 (.agg #[.int .i64 0, .int .i64 0, .slice none 0 0]) 3 Try.underlying38 Try.zeroValue29 rfl (by intro u hu; simp [Value.cells] at hu; rcases hu with rfl | rfl | rfl <;> rfl) b ((i + (n - j)) * 3) (n - (i + (n - j))) (c - (i + (n - j))) (by omega) (by omega) (fun t ht => (O1.room _ (by omega)).1) (fun t ht => (O1.room _ (by omega)).2)
  have O2 := O1.behind ((i + (n - j)) * 3) vs (Nat.le_refl _) (by omega)
  have F2 : Fr (fun k => k = b) w (W1.setCells b ((i + (n - j)) * 3) vs) := Fr.setCells (S := fun k => k = b) F1 (fun _ => rfl) _ _
  have HO2 := hid O2
  have HF2 := hid F2
  have hlt : i < j := by omega
  clear hW1 h1 h hnews hd hO O1 F1 hij O2 F2 HO1 HF1 hvs
  go_enter Try.func35, Try.ntmps35
  go_wp2_with fail
  go_region_law (refine step_append_room rfl (.tmp 22) (.tmp 25) 38 rfl 29 i0 3 Try.underlying38 hi0 hs0 b 0 i c (by simp [Act.eval, Act.put]) A (n - j) (c - j) news (by simp [Act.eval, Act.put]) HL.out hsrc.out H1.out (by omega) s3.out ?_; rw [← HW.out])
  go_wp2
  go_ret
  exact ⟨rfl, by rw [← HN.out]; exact HO2.out, HF2.out⟩

/-- what is left behind Take -/
def takeL (L : List G3) (i : Int) : List G3 := if 0 ≤ i ∧ i < L.length then L.eraseIdx i.toNat else L
def RetTake (w : World) (g : Nat) (F : Nat → Prop) (nodes : Int) (L : List G3) (r : G3 × Bool) : Ending → World → Prop := fun e w' => ∃ v, e = .returned (.tuple #[.agg #[.int .i64 r.1.1, .int .i64 r.1.2.1, v], .bool r.2]) ∧
  OwnB 5 w' v r.1.2.2 ∧ IsN w' g F nodes L ∧ Fr F w w' ∧ ∀ k, Of v k → w.heap.size ≤ k

theorem IsNet.less {w w' : World} {g b c : Nat} {nodes : Int} {l l' : List Gr} (h : IsNet w g (.slice (some ⟨b, 0, none⟩) l.length c) nodes l) (hb : b ≠ g) (hf : Fr (fun k => k = b) w w') (hl : l'.length ≤ l.length) (hs : ∀ p ∈ l', p ∈ l)
    (ho : Own 29 3 w' (.slice (some ⟨b, 0, none⟩) l'.length c) l'.length (rows Gr.cells l')) : IsNet (w'.setCell ⟨g, 1, none⟩ (.slice (some ⟨b, 0, none⟩) l'.length c)) g (.slice (some ⟨b, 0, none⟩) l'.length c) nodes l' := by
  have hB : Blk w' g 53 _ := h.blk.keep hf (fun e => hb e.symm)
  have hg : Fr (fun k => k = g) w' (w'.setCell ⟨g, 1, none⟩ (.slice (some ⟨b, 0, none⟩) l'.length c)) := Fr.setCell (S := fun k => k = g) (Fr.refl _ w') (fun _ => rfl) _
  refine ⟨hB.set_ 1 _, ho.keep hg (fun k hk e => ho.ne_ hB (by decide) (e ▸ hk)), fun p hp => ?_, h.n1, h.n2, Nat.le_trans hl h.len, fun p hp => h.ok p (hs p hp)⟩
  have hd := h.data p (hs p hp)
  have hd2 : OwnB 5 w' p.v p.b := hd.keep hf (fun k hk e => by
    subst e
    have := h.row.cur
    obtain ⟨cur, hc, _⟩ := this
    exact hd.ne_ (g' := k) (cs' := cur) hc (by decide) hk)
  exact hd2.keep hg (fun k hk e => hd2.ne_ hB (by decide) (e ▸ hk))

theorem IsN.len {w : World} {g : Nat} {F : Nat → Prop} {nodes : Int} {L : List G3} (h : IsN w g F nodes L) : L.length ≤ 4096 := by
  obtain ⟨A, l, h1, rfl, hF⟩ := h.ex
  simpa using h1.len

set_option maxRecDepth 100000 in
set_option maxHeartbeats 1000000 in
theorem take_c {w : World} {g : Nat} {F : Nat → Prop} {nodes : Int} {L : List G3} (h : IsN w g F nodes L) (i : Int) (r : G3 × Bool) (hr : lookL L i = r) (L' : List G3) (hL : takeL L i = L') :
    Calls Try.prog 20 #[.pointer (some ⟨g, 0, none⟩), .int .i64 i] w (RetTake w g F nodes L' r) := by
  have h0 := h.keep_no ((Fr.refl No w).alloc (.cells #[.int .i64 0, .int .i64 0, .slice none 0 0] 29))
  have HW0 := hid h
  have HR := hid hr
  have H0 := hid h0
  by_cases c1 : 0 ≤ i ∧ i < L.length
  · obtain ⟨i, rfl⟩ := Int.eq_ofNat_of_zero_le c1.1
    have c2 : i < L.length := by have := c1.2; omega
    have hr2 : r.2 = true := by rw [← hr]; unfold lookL; rw [if_pos c1]
    have hL2 : L' = L.eraseIdx i := by rw [← hL]; unfold takeL; rw [if_pos c1]; rfl
    obtain ⟨⟨ra, rz, rb⟩, rk⟩ := r
    replace hr2 : rk = true := hr2
    subst hr2
    have h4096 := h.len
    have HL2 := hid hL2
    have hw : IntKind.i64.wrap ((i : Int) + 1) = ((i + 1 : Nat) : Int) := by rw [IntKind.wrap_i64]; omega
    clear hr hL h h0 c1 hL2 h4096
    go_enter Try.func20, Try.ntmps20
    go_wp2_with fail
    refine (look_c H0.out _ _ HR.out).mono ?_
    rintro e w3 ⟨v3, rfl, O3, F3, G3⟩
    obtain ⟨A3, c3', rfl, hc3⟩ := O3.slice
    have H3 := H0.out.keep_no F3
    obtain ⟨A, l, h1, hl, hF⟩ := H3.ex
    have c3 : i < l.length := by rw [← hl] at c2; simpa using c2
    have h2 := h1.keep ((Fr.refl No w3).alloc (.cells #[.int .i64 ra, .int .i64 rz, .slice A3 rb.length c3'] 29)) (fun k _ => not_no k)
    obtain ⟨b, c, p, A', c', rfl, hc, hm, hp, hpm, hv, q3, q4, q5⟩ := h2.at_ c3
    have D1 := hid (((Blk.new w 29 #[.int .i64 0, .int .i64 0, .slice none 0 0]).keep F3 (not_no _)).alloc (.cells #[.int .i64 ra, .int .i64 rz, .slice A3 rb.length c3'] 29))
    have D2 := hid (Blk.new w3 29 #[.int .i64 ra, .int .i64 rz, .slice A3 rb.length c3'])
    have HB := hid h2
    have k1 := h2.c1
    have HO3 := hid O3
    have HF3 := hid F3
    have HG3 := hid G3
    have HL3 := hid hl
    have HFF := hid hF
    have HC2 := hid c2
    clear h1 h2 O3 F3 G3 hl hF H3 HR hp hpm hv c2 c3 q3 q4 q5
    go_wp2_with fail
    have hbF := HFF.out b (.inr (.inl (by simp [Of, Value.ownBlock])))
    have hgF := HFF.out g (.inl rfl)
    have hb0 := HW0.out.lt b hbF
    have hg0 := HW0.out.lt g hgF
    have hs3 : w.heap.size < w3.heap.size := by have := HF3.out.size; simp at this; omega
    have hbg : b ≠ g := fun e => HB.out.row.ne_ HB.out.blk (by decide) (by subst e; simp [Of, Value.ownBlock])
    refine (delete_c HB.out.row HB.out.one i (i + 1) rfl (by have := HC2.out; rw [← HL3.out] at this; simpa using this)).mono ?_
    rintro e w5 ⟨rfl, O5, F5⟩
    have hlen : i + (l.length - (i + 1)) = (l.eraseIdx i).length := by have := HC2.out; rw [← HL3.out] at this; simp at this; rw [List.length_eraseIdx]; split <;> omega
    have hrow : (rows Gr.cells l).take (i * 3) ++ (rows Gr.cells l).drop ((i + 1) * 3) = rows Gr.cells (l.eraseIdx i) := by rw [rows_take Gr.cells_length, rows_drop Gr.cells_length, ← rows_append, List.eraseIdx_eq_take_drop_succ]
    rw [hrow, hlen] at O5
    have hsub : ∀ p ∈ l.eraseIdx i, p ∈ l := fun p hp => List.mem_of_mem_eraseIdx hp
    have N5 := HB.out.less hbg F5 (by rw [List.length_eraseIdx]; split <;> omega) hsub O5
    have D15 := hid (D1.out.keep F5 (by omega))
    have D25 := hid (D2.out.keep F5 (by omega))
    obtain ⟨a0, a1, a2, af⟩ := D15.out.three
    obtain ⟨b0, b1, b2, bf⟩ := D25.out.three
    have B5 : Blk w5 g 53 _ := HB.out.blk.keep F5 (fun e => hbg e.symm)
    have g1 := B5.cell 1
    have gf := B5.frozen
    have n1 : ¬ w3.heap.size = g := by omega
    have n2 : ¬ w.heap.size = g := by omega
    have n3 : ¬ g = w3.heap.size := by omega
    have n4 : ¬ g = w.heap.size := by omega
    have n5 : ¬ w.heap.size = w3.heap.size := by omega
    have n6 : ¬ w3.heap.size = w.heap.size := by omega
    rw [hlen]
    have HN5 := hid N5
    have HF5 := hid F5
    have HO5 := hid (HO3.out.alloc (.cells #[.int .i64 ra, .int .i64 rz, .slice A3 rb.length c3'] 29) |>.keep F5 (fun k hk e => by subst e; obtain ⟨cur, hcur, _⟩ := HB.out.row.cur; exact (HO3.out.alloc (.cells #[.int .i64 ra, .int .i64 rz, .slice A3 rb.length c3'] 29)).ne_ (g' := k) (cs' := cur) hcur (by decide) hk))
    have HHB := hid hbF
    have HHG := hid hgF
    have HHS := hid hs3
    have HHsub := hid hsub
    have HV := hid (show ∀ k, Of (.slice A3 rb.length c3') k → w.heap.size + 1 ≤ k from fun k hk => by rcases HG3.out k hk with h | h; exact absurd h (not_no k); simpa using h)
    clear O5 F5 hrow hlen N5 B5 hbF hgF hs3 hsub hbg k1
    go_wp2_with fail
    refine ⟨rfl, ?_⟩
    refine ⟨.tuple #[.agg #[.int .i64 ra, .int .i64 rz, .slice A3 rb.length c3'], .bool true], ?_, ?_⟩
    · have hres : Try.f20.results = #[.cell 4 29, .tmp 5] := rfl
      simp [results, hres, asAddr]
      try go_simp
    · have hlt : ∀ k, F k → k < w.heap.size := HW0.out.lt
      refine ⟨_, rfl, ?_, ?_, ?_, ?_⟩
      · refine HO5.out.keep (S := fun k => k = g ∨ k = w.heap.size) (Fr.setCell (Fr.setCell (Fr.setCell (Fr.setCell (Fr.refl _ w5) ?_ _) ?_ _) ?_ _) ?_ _) ?_
        · exact fun _ => .inl rfl
        · exact fun _ => .inr rfl
        · exact fun _ => .inr rfl
        · exact fun _ => .inr rfl
        rintro k hk (rfl | rfl)
        · have := HV.out _ hk; omega
        · have := HV.out _ hk; omega
      · refine IsN.keep (S := fun k => k = w.heap.size) (w := w5.setCell ⟨g, 1, none⟩ (.slice (some ⟨b, 0, none⟩) (l.eraseIdx i).length c)) ?_ (Fr.setCell (Fr.setCell (Fr.setCell (Fr.refl _ _) ?_ _) ?_ _) ?_ _) ?_
        · refine HN5.out.isN ?_ ?_ ?_
          · rw [HL2.out, ← HL3.out]
            simp [List.eraseIdx_eq_take_drop_succ]
          · rintro k (rfl | hk | ⟨p, hp, hk⟩)
            · exact HHG.out
            · exact HFF.out k (.inr (.inl (by simpa [Of, Value.ownBlock] using hk)))
            · exact HFF.out k (.inr (.inr ⟨p, HHsub.out p hp, hk⟩))
          · intro k hk
            have h1 := hlt k hk
            have h2 := HHS.out
            have h3 := HF5.out.size
            simp [World.setCell] at h3 ⊢
            omega
        · exact fun _ => rfl
        · exact fun _ => rfl
        · exact fun _ => rfl
        · rintro k hk rfl
          exact absurd (hlt _ hk) (by omega)
      · have f1 : Fr F w (w3.alloc (.cells #[.int .i64 ra, .int .i64 rz, .slice A3 rb.length c3'] 29)) := ((((Fr.refl No w).alloc _).fresh_no HF3.out).alloc _).mono (fun k _ h => absurd h (not_no k))
        refine Fr.setCell (Fr.setCell (Fr.setCell (Fr.setCell (f1.trans HF5.out ?_) ?_ _) ?_ _) ?_ _) ?_ _
        · rintro k hk rfl
          exact HHB.out
        · exact fun _ => HHG.out
        · exact fun h => absurd h (by simp)
        · exact fun h => absurd h (by simp)
        · exact fun h => absurd h (by simp)
      · exact fun k hk => by have := HV.out k hk; omega
  · have hr2 : r = ((0, 0, []), false) := by rw [← hr]; unfold lookL; rw [if_neg c1]
    have hL2 : L' = L := by rw [← hL]; unfold takeL; rw [if_neg c1]
    subst hr2 hL2
    clear hr hL h h0 c1
    go_enter Try.func20, Try.ntmps20
    go_wp2_with fail
    refine (look_c H0.out _ _ HR.out).mono ?_
    rintro e w3 ⟨v3, rfl, O3, F3, G3⟩
    obtain ⟨A3, c3', rfl, hc3⟩ := O3.slice
    have D1 := hid (((Blk.new w 29 #[.int .i64 0, .int .i64 0, .slice none 0 0]).keep F3 (not_no _)).alloc (.cells #[.int .i64 0, .int .i64 0, .slice A3 0 c3'] 29))
    have D2 := hid (Blk.new w3 29 #[.int .i64 0, .int .i64 0, .slice A3 0 c3'])
    obtain ⟨a0, a1, a2, af⟩ := D1.out.three
    obtain ⟨b0, b1, b2, bf⟩ := D2.out.three
    have HO3 := hid O3
    have HF3 := hid F3
    have HG3 := hid G3
    clear O3 F3 G3
    go_wp2_with fail
    refine ⟨rfl, ?_⟩
    refine ⟨.tuple #[.agg #[.int .i64 0, .int .i64 0, .slice A3 0 c3'], .bool false], ?_, ?_⟩
    · have hres : Try.f20.results = #[.cell 4 29, .tmp 5] := rfl
      simp [results, hres, asAddr]
      try go_simp
    · have hf : Fr No (w.alloc (.cells #[.int .i64 0, .int .i64 0, .slice none 0 0] 29)) (w3.alloc (.cells #[.int .i64 0, .int .i64 0, .slice A3 0 c3'] 29)) := HF3.out.alloc _
      have hV : ∀ k, Of (.slice A3 0 c3') k → w.heap.size + 1 ≤ k := fun k hk => by
        rcases HG3.out k hk with h | h
        · exact absurd h (not_no k)
        · simpa using h
      refine ⟨_, rfl, ?_, ?_, ?_, ?_⟩
      · refine (HO3.out.alloc _).keep (S := fun k => k = w.heap.size) (Fr.setCell (Fr.setCell (Fr.setCell (Fr.refl _ _) ?_ _) ?_ _) ?_ _) ?_
        · exact fun _ => rfl
        · exact fun _ => rfl
        · exact fun _ => rfl
        rintro k hk rfl
        have := hV _ hk
        omega
      · refine (H0.out.keep_no hf).keep (S := fun k => k = w.heap.size) (Fr.setCell (Fr.setCell (Fr.setCell (Fr.refl _ _) ?_ _) ?_ _) ?_ _) ?_
        · exact fun _ => rfl
        · exact fun _ => rfl
        · exact fun _ => rfl
        · rintro k hk rfl
          exact absurd (HW0.out.lt _ hk) (by omega)
      · refine Fr.setCell (Fr.setCell (Fr.setCell ((((Fr.refl No w).alloc _).fresh_no hf).mono (fun k _ h => absurd h (not_no k))) ?_ _) ?_ _) ?_ _ <;> exact fun h => absurd h (by simp)
      · exact fun k hk => by have := hV k hk; omega

/-- a Bool comes back; what Drop leaves -/
def RetDrop (w : World) (g : Nat) (F : Nat → Prop) (nodes : Int) (L : List G3) (b : Bool) : Ending → World → Prop := fun e w' => e = .returned (.bool b) ∧ IsN w' g F nodes L ∧ Fr F w w'

set_option maxRecDepth 100000 in
set_option maxHeartbeats 1000000 in
theorem drop_c {w : World} {g : Nat} {F : Nat → Prop} {nodes : Int} {L : List G3} (h : IsN w g F nodes L) (i : Int) (b : Bool) (hr : (lookL L i).2 = b) (L' : List G3) (hL : takeL L i = L') :
    Calls Try.prog 14 #[.pointer (some ⟨g, 0, none⟩), .int .i64 i] w (RetDrop w g F nodes L' b) := by
  obtain ⟨⟨⟨ra, rz, rb⟩, rk⟩, hq⟩ : ∃ r, lookL L i = r := ⟨_, rfl⟩
  have hrb : rk = b := by rw [← hr, hq]
  subst hrb
  have HQ := hid hq
  have HL := hid hL
  have H := hid h
  clear hr hq hL h
  go_enter Try.func14, Try.ntmps14
  go_wp2_with fail
  refine (take_c H.out i _ HQ.out _ HL.out).mono ?_
  rintro e w3 ⟨v3, rfl, O3, N3, F3, G3⟩
  obtain ⟨A3, c3', rfl, hc3⟩ := O3.slice
  have HN3 := hid N3
  have HF3 := hid F3
  clear O3 N3 F3 G3
  go_wp2_with fail
  go_ret
  exact ⟨rfl, HN3.out.keep_no ((Fr.refl No _).alloc _), HF3.out.alloc _⟩
end Go.Proofs.Ytjgcibjodiefkaa
