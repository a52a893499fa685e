import Derived.Test.YtjgcibjodiefkaaNetBack
import Derived.Deep.RegionHeld3
/-! The document's net, by value: New, Send, Copy. -/
namespace Go.Proofs.Ytjgcibjodiefkaa
open Go.RowKit
set_option linter.unusedVariables false
set_option linter.unusedSimpArgs false

/-- the document's net, as a value -/
def refV (nodes : Int) (v : Value) : Value := .agg #[.int .i64 nodes, v]
/-- a list as the document's net has it -/
structure RefL (w : World) (v : Value) (m : List Gr) : Prop where
  own : Own 29 3 w v m.length (rows Gr.cells m)
  data : ∀ p ∈ m, OwnB 5 w p.v p.b
/-- what a call of the document's net leaves: the list then; what is new in it lies in new blocks -/
structure RefTo (w w' : World) (v : Value) (m : List Gr) (v' : Value) (m' : List Gr) (L' : List G3) : Prop where
  ref : RefL w' v' m'
  abs : m'.map Gr.abs = L'
  fr : Fr No w w'
  row : ∀ k, Of v' k → Of v k ∨ w.heap.size ≤ k
  dat : ∀ p ∈ m', p ∈ m ∨ ∀ k, Of p.v k → w.heap.size ≤ k
theorem RefL.keep {w w' : World} {v : Value} {m : List Gr} (h : RefL w v m) (hf : Fr No w w') : RefL w' v m := ⟨h.own.keep hf (fun k _ => not_no k), fun p hp => (h.data p hp).keep hf (fun k _ => not_no k)⟩
theorem RefL.same {w w' : World} {v : Value} {m : List Gr} (h : RefL w v m) (hf : Fr No w w') : RefTo w w' v m v m (m.map Gr.abs) := ⟨h.keep hf, rfl, hf, fun k hk => .inl hk, fun p hp => .inl hp⟩
theorem RefL.isl {w : World} {v : Value} {m : List Gr} (h : RefL w v m) : ∀ p ∈ m, Isl p := fun p hp => by
  obtain ⟨A', c', e, _⟩ := (h.data p hp).slice
  exact ⟨_, _, _, e⟩
theorem RefTo.from {w w1 w' : World} {v v' : Value} {m m' : List Gr} {L' : List G3} (h : RefTo w1 w' v m v' m' L') (hf : Fr No w w1) : RefTo w w' v m v' m' L' :=
  ⟨h.ref, h.abs, hf.fresh_no h.fr, fun k hk => (h.row k hk).imp id (Nat.le_trans hf.size), fun p hp => (h.dat p hp).imp id (fun h2 k hk => Nat.le_trans hf.size (h2 k hk))⟩
/-- the list then, an error -/
def RetRE (w : World) (nodes : Int) (v : Value) (m : List Gr) (r : List G3 × Nat) : Ending → World → Prop := fun e w' => ∃ v' m', e = .returned (.tuple #[refV nodes v', .int .i64 r.2]) ∧ RefTo w w' v m v' m' r.1
theorem Blk.two {w : World} {g : Nat} {t : TypeId} {a b : Value} (h : Blk w g t #[a, b]) : w.cell? ⟨g, 0, none⟩ = some a ∧ w.cell? ⟨g, 1, none⟩ = some b ∧ ∀ i, w.frozen? ⟨g, i, none⟩ = false := ⟨h.cell 0, h.cell 1, h.frozen⟩

set_option maxHeartbeats 1000000 in
theorem rnew_bad (n : Int) (h : n < 1 ∨ n > 16) (w : World) : Calls Try.prog 18 #[.int .i64 n] w fun e w' => e = .returned (.tuple #[refV 0 (.slice none 0 0), .int .i64 2]) ∧ Fr No w w' := by
  rcases h with h | h
  · go_enter Try.func18, Try.ntmps18
    go_wp2
    refine ⟨rfl, ?_⟩
    refine ⟨.tuple #[.agg #[.int .i64 0, .slice none 0 0], .int .i64 2], ?_, ?_⟩
    · have hres : Try.f18.results = #[.cell 2 40, .tmp 3] := rfl
      simp [results, hres, asAddr]
      try go_simp
    · exact ⟨rfl, (Fr.refl No w).alloc _⟩
  · have h2 : ¬ n < 1 := by omega
    go_enter Try.func18, Try.ntmps18
    go_wp2
    refine ⟨rfl, ?_⟩
    refine ⟨.tuple #[.agg #[.int .i64 0, .slice none 0 0], .int .i64 2], ?_, ?_⟩
    · have hres : Try.f18.results = #[.cell 2 40, .tmp 3] := rfl
      simp [results, hres, asAddr]
      try go_simp
    · exact ⟨rfl, (Fr.refl No w).alloc _⟩
set_option maxHeartbeats 1000000 in
theorem rnew_c (n : Int) (h0 : 1 ≤ n) (h1 : n ≤ 16) (w : World) : Calls Try.prog 18 #[.int .i64 n] w fun e w' => e = .returned (.tuple #[refV n (.slice none 0 0), .int .i64 0]) ∧ Fr No w w' := by
  go_enter Try.func18, Try.ntmps18
  go_wp2
  refine ⟨rfl, ?_⟩
  refine ⟨.tuple #[.agg #[.int .i64 n, .slice none 0 0], .int .i64 0], ?_, ?_⟩
  · have hres : Try.f18.results = #[.cell 2 40, .tmp 3] := rfl
    simp [results, hres, asAddr]
    try go_simp
  · exact ⟨rfl, (Fr.refl No w).alloc _⟩

set_option maxRecDepth 100000 in
set_option maxHeartbeats 2000000 in
theorem rsend_c {w : World} {v : Value} {m : List Gr} (h : RefL w v m) (hm : m.length ≤ 4096) (nodes a z : Int) (y : Value) (ys : List UInt8) (hy : RdB w y ys) (hyl : ys.length ≤ 140737488355328) (r : List G3 × Nat) (hr : sendL nodes (m.map Gr.abs) a z ys = r) :
    Calls Try.prog 19 #[refV nodes v, .int .i64 a, .int .i64 z, y] w (RetRE w nodes v m r) := by
  obtain ⟨Ay, cy, rfl, hcy⟩ := hy.slice
  obtain ⟨A, c, rfl, hc, hcm⟩ := h.own.slice
  have H := hid h
  have HR := hid hr
  have HY := hid hy
  have HYL := hid hyl
  clear h hr hy hyl
  unfold refV
  by_cases c1 : (0 ≤ a ∧ a < nodes) ∧ (0 ≤ z ∧ z < nodes)
  · obtain ⟨⟨c1, c2⟩, c3, c4⟩ := c1
    by_cases c5 : 1048640 < ys.length
    · have hr2 : r = (m.map Gr.abs, 3) := by rw [← HR.out]; unfold sendL; rw [if_neg (by simp [c1, c2, c3, c4]), if_pos c5]
      subst hr2
      clear HR
      go_enter Try.func19, Try.ntmps19
      go_wp2_with fail
      refine ⟨rfl, ?_⟩
      refine ⟨.tuple #[.agg #[.int .i64 nodes, .slice A m.length c], .int .i64 3], ?_, ?_⟩
      · have hres : Try.f19.results = #[.cell 8 40, .tmp 9] := rfl
        simp [results, hres, asAddr]
        try go_simp
      · exact ⟨_, m, rfl, H.out.same (((Fr.refl No w).alloc _).alloc _)⟩
    · by_cases c6 : 4096 ≤ m.length
      · have hr2 : r = (m.map Gr.abs, 5) := by rw [← HR.out]; unfold sendL; rw [if_neg (by simp [c1, c2, c3, c4]), if_neg c5, if_pos (by rw [List.length_map]; exact c6)]
        subst hr2
        clear HR
        go_enter Try.func19, Try.ntmps19
        go_wp2_with fail
        refine ⟨rfl, ?_⟩
        refine ⟨.tuple #[.agg #[.int .i64 nodes, .slice A m.length c], .int .i64 5], ?_, ?_⟩
        · have hres : Try.f19.results = #[.cell 8 40, .tmp 9] := rfl
          simp [results, hres, asAddr]
          try go_simp
        · exact ⟨_, m, rfl, H.out.same (((Fr.refl No w).alloc _).alloc _)⟩
      · have hr2 : r = (m.map Gr.abs ++ [(a, z, ys)], 0) := by rw [← HR.out]; unfold sendL; rw [if_neg (by simp [c1, c2, c3, c4]), if_neg c5, if_neg (by rw [List.length_map]; exact c6)]
        subst hr2
        clear HR
        have hFW : Fr No w ((w.alloc (.cells #[.int .i64 nodes, .slice A m.length c] 40)).alloc (.cells #[.int .i64 0, .slice none 0 0] 40)) := ((Fr.refl No w).alloc _).alloc _
        have HFW := hid hFW
        have B4 := hid ((Blk.new w 40 #[.int .i64 nodes, .slice A m.length c]).alloc (.cells #[.int .i64 0, .slice none 0 0] 40))
        have B8 := hid (Blk.new_ (w.alloc (.cells #[.int .i64 nodes, .slice A m.length c] 40)) 40 #[.int .i64 0, .slice none 0 0] (w.heap.size + 1) (by simp))
        have RM := hid ((H.out.keep hFW).own.rd)
        have HISL := hid H.out.isl
        have HYW := hid (HY.out.keep hFW (fun k _ => not_no k))
        have HYL2 := hid (show ([] : List UInt8).length + ys.length ≤ 140737488355328 by have := HYL.out; simp; omega)
        clear hFW
        go_enter Try.func19, Try.ntmps19
        go_wp2_with (first
          | (at_builtin
             refine wpl_app _ rfl (.tmp 40) (.tmp 42) 38 rfl 29 _ 3 40 Try.underlying38 infoG rfl (.slice none 0 0) 0 [] rfl (Own.nil _ _ _) (.slice A m.length c) m.length (rows Gr.cells m) rfl RM.out (rows_isl HISL.out) (by simp only [maxLen]; omega) (by omega) ?_
             intro v1 w1 o1 f1 g1
             simp only [Nat.zero_add, List.nil_append] at o1
             have O1 := hid o1
             have F1 := hid (HFW.out.fresh_no (f1.mono (S' := No) (fun k _ h => absurd h Of_none)))
             have FX := hid (f1.mono (S' := No) (fun k _ h => absurd h Of_none))
             have G1 := hid g1
             clear o1 f1 g1
             obtain ⟨A1, c1', rfl, hc1, hm1⟩ := O1.out.slice
             have B41 := hid (B4.out.keep FX.out (not_no _))
             have B81 := hid (B8.out.keep FX.out (not_no _))
             have HY1 := hid (HYW.out.keep FX.out (fun k _ => not_no k)))
          | (at_builtin
             refine wpl_appB _ rfl (.tmp 47) (.tmp 48) _ rfl 5 Try.underlying26 infoU8 _ [] rfl (OwnB.nil _ _) _ ys rfl HY1.out HYL2.out ?_
             intro v2 w2 O2 F2 G2
             rw [List.nil_append] at O2
             obtain ⟨A2, c2', rfl, hc2⟩ := O2.out.slice
             have FX2 := hid (F2.out.mono (S' := No) (fun k _ h => absurd h Of_none))
             have GX2 := hid (show ∀ k, Of (.slice A2 ys.length c2') k → w1.heap.size ≤ k from fun k hk => by rcases G2.out k hk with h | h; exact absurd h Of_none; exact h)
             clear F2 G2
             have B42 := hid ((B41.out.keep FX2.out (not_no _)).alloc (.cells #[.int .i64 a, .int .i64 z, .slice A2 ys.length c2'] 29))
             have B82 := hid ((B81.out.keep FX2.out (not_no _)).alloc (.cells #[.int .i64 a, .int .i64 z, .slice A2 ys.length c2'] 29))
             have O12 := hid ((O1.out.keep FX2.out (fun k _ => not_no k)).keep ((Fr.refl No w2).alloc (.cells #[.int .i64 a, .int .i64 z, .slice A2 ys.length c2'] 29)) (fun k _ => not_no k))
             have OB2 := hid (O2.out.alloc (.cells #[.int .i64 a, .int .i64 z, .slice A2 ys.length c2'] 29)))
          | (at_builtin
             refine wpl_app _ rfl (.tmp 44) (.tmp 51) 38 rfl 29 _ 3 40 Try.underlying38 infoG rfl (.slice A1 m.length c1') m.length (rows Gr.cells m) rfl O12.out (.slice (some ⟨w2.heap.size, 0, none⟩) 1 1) 1 (Gr.cells ⟨a, z, .slice A2 ys.length c2', ys⟩) rfl (Rd.lit1 w2 29 #[.int .i64 a, .int .i64 z, .slice A2 ys.length c2'] 3 rfl) (by intro u hu; simp only [Gr.cells, List.mem_cons, List.not_mem_nil, or_false] at hu; rcases hu with rfl | rfl | rfl <;> rfl) (by simp only [maxLen]; omega) (by omega) ?_
             intro v3 w3 o3 f3 g3
             have O3 := hid o3
             have F3 := hid f3
             have G3 := hid g3
             clear o3 f3 g3
             obtain ⟨A3, c3', rfl, hc3, hm3⟩ := O3.out.slice
             have NE := hid (show ∀ k, Of (.slice A1 m.length c1') k → w.heap.size + 2 ≤ k from fun k hk => by
               rcases G1.out k hk with h | h
               · exact absurd h Of_none
               · rw [h]; simp)
             have B43 := hid (B42.out.keep F3.out (fun h => by have := NE.out _ h; omega))
             have B83 := hid (B82.out.keep F3.out (fun h => by have := NE.out _ h; omega))
             obtain ⟨a0, a1, af⟩ := B43.out.two
             obtain ⟨b0, b1, bf⟩ := B83.out.two))
        refine ⟨rfl, ?_⟩
        refine ⟨.tuple #[.agg #[.int .i64 nodes, .slice A3 (m.length + 1) c3'], .int .i64 0], ?_, ?_⟩
        · have hres : Try.f19.results = #[.cell 8 40, .tmp 9] := rfl
          simp [results, hres, asAddr]
          try go_simp
        · have s1 : w.heap.size + 2 ≤ w1.heap.size := by have := FX.out.size; simpa using this
          have s2 := FX2.out.size
          have NA : ∀ k, Of (.slice A3 (m.length + 1) c3') k → w.heap.size + 2 ≤ k := fun k hk => by
            rcases G3.out k hk with h | h
            · exact NE.out k h
            · rw [h]; simp; omega
          have FN : Fr No w (w2.alloc (.cells #[.int .i64 a, .int .i64 z, .slice A2 ys.length c2'] 29)) := (F1.out.fresh_no FX2.out).alloc _
          have F3' : Fr No w w3 := FN.fresh F3.out (fun k hk => by have := NE.out k hk; omega)
          refine ⟨_, m ++ [⟨a, z, .slice A2 ys.length c2', ys⟩], rfl, ⟨⟨?_, ?_⟩, by rw [List.map_append]; rfl, ?_, ?_, ?_⟩⟩
          · rw [List.length_append, rows_append, rows_one]
            refine O3.out.keep (S := fun k => k = w.heap.size ∨ k = w.heap.size + 1) (Fr.setCell (Fr.setCell (Fr.setCell (Fr.refl _ w3) (fun _ => .inl rfl) _) (fun _ => .inr rfl) _) (fun _ => .inr rfl) _) ?_
            rintro k hk (rfl | rfl)
            · have := NA _ hk; omega
            · have := NA _ hk; omega
          · intro q hq
            have hq3 : OwnB 5 w3 q.v q.b := by
              rcases List.mem_append.1 hq with hq | hq
              · have h1 := (H.out.data q hq).keep FN (fun k _ => not_no k)
                exact h1.keep F3.out (own_apart h1 O12.out (by decide))
              · rw [List.mem_singleton.1 hq]
                exact OB2.out.keep F3.out (own_apart OB2.out O12.out (by decide))
            refine hq3.keep (S := fun k => k = w.heap.size ∨ k = w.heap.size + 1) (Fr.setCell (Fr.setCell (Fr.setCell (Fr.refl _ w3) (fun _ => .inl rfl) _) (fun _ => .inr rfl) _) (fun _ => .inr rfl) _) ?_
            rintro k hk (rfl | rfl)
            · exact hq3.ne_ B43.out (by decide) hk
            · exact hq3.ne_ B83.out (by decide) hk
          · refine Fr.setCell (Fr.setCell (Fr.setCell F3' ?_ _) ?_ _) ?_ _
            · exact fun h => absurd h (by simp)
            · exact fun h => absurd h (by simp)
            · exact fun h => absurd h (by simp)
          · exact fun k hk => .inr (by have := NA k hk; omega)
          · intro q hq
            rcases List.mem_append.1 hq with hq | hq
            · exact .inl hq
            · rw [List.mem_singleton.1 hq]
              exact .inr (fun k hk => by have := GX2.out k hk; omega)
  · have hr2 : r = (m.map Gr.abs, 2) := by rw [← HR.out]; unfold sendL; rw [if_pos c1]
    subst hr2
    clear HR
    have hcs : a < 0 ∨ (0 ≤ a ∧ nodes ≤ a) ∨ (0 ≤ a ∧ a < nodes ∧ z < 0) ∨ (0 ≤ a ∧ a < nodes ∧ 0 ≤ z ∧ nodes ≤ z) := by omega
    clear c1
    rcases hcs with g1 | ⟨g1, g2⟩ | ⟨g1, g2, g3⟩ | ⟨g1, g2, g3, g4⟩
    all_goals
      go_enter Try.func19, Try.ntmps19
      go_wp2_with fail
      refine ⟨rfl, ?_⟩
      refine ⟨.tuple #[.agg #[.int .i64 nodes, .slice A m.length c], .int .i64 2], ?_, ?_⟩
      · have hres : Try.f19.results = #[.cell 8 40, .tmp 9] := rfl
        simp [results, hres, asAddr]
        try go_simp
      · exact ⟨_, m, rfl, H.out.same (((Fr.refl No w).alloc _).alloc _)⟩
end Go.Proofs.Ytjgcibjodiefkaa
