import Derived.Test.YtjgcibjodiefkaaNetD
/-! The contracts of package net: Send, Copy. -/
namespace Go.Proofs.Ytjgcibjodiefkaa
open Go.RowKit
set_option linter.unusedVariables false
set_option linter.unusedSimpArgs false

theorem infoG : (Try.prog.info? 29).map (fun i => (i.zero, i.size, i.bytes)) = some (some (.agg #[.int .i64 0, .int .i64 0, .slice none 0 0]), 3, 40) := by kernel_rfl

/-- what Send does: what is on its way then, the error -/
def sendL (nodes : Int) (L : List G3) (a z : Int) (b : List UInt8) : List G3 × Nat :=
  if ¬ ((0 ≤ a ∧ a < nodes) ∧ (0 ≤ z ∧ z < nodes)) then (L, 2) else if 1048640 < b.length then (L, 3) else if 4096 ≤ L.length then (L, 5) else (L ++ [(a, z, b)], 0)
def More (w w' : World) (F : Nat → Prop) : Nat → Prop := fun k => F k ∨ (w.heap.size ≤ k ∧ k < w'.heap.size)
def RetSend (w : World) (g : Nat) (F : Nat → Prop) (nodes : Int) (r : List G3 × Nat) : Ending → World → Prop := fun e w' => e = .returned (.int .i64 r.2) ∧ IsN w' g (More w w' F) nodes r.1 ∧ Fr F w w'
theorem IsN.more {w : World} {g : Nat} {F : Nat → Prop} {nodes : Int} {L : List G3} (h : IsN w g F nodes L) : IsN w g (More w w F) nodes L := by
  obtain ⟨A, l, h1, h2, h3⟩ := h.ex
  exact ⟨⟨A, l, h1, h2, fun k hk => .inl (h3 k hk)⟩, fun k hk => by rcases hk with hk | hk; exact h.lt k hk; exact hk.2⟩

theorem Rd.lit1 (w : World) (t : TypeId) (cs : Array Value) (size : Nat) (hs : cs.size = size) : Rd size (w.alloc (.cells cs t)) (.slice (some ⟨w.heap.size, 0, none⟩) 1 1) 1 cs.toList := by
  refine ⟨_, 1, rfl, Nat.le_refl _, by simp [hs], fun _ => ⟨w.heap.size, 0, rfl, by simp, fun j u hu => ?_⟩⟩
  rw [Nat.zero_add, cell_of_row _ _ j cs t (0, 0) (heap_alloc_new w _), ← Array.getElem?_toList]
  exact hu

theorem IsNet.push {w w5 : World} {g : Nat} {A A5 : Value} {nodes : Int} {l : List Gr} {p : Gr} (h : IsNet w g A nodes l) (hp : OwnB 5 w p.v p.b) (hok : 0 ≤ p.a ∧ p.a < nodes ∧ 0 ≤ p.z ∧ p.z < nodes ∧ p.b.length ≤ 1048640) (hl : l.length < 4096)
    (ho : Own 29 3 w5 A5 (l.length + 1) (rows Gr.cells l ++ p.cells)) (hf : Fr (Of A) w w5) : IsNet (w5.setCell ⟨g, 1, none⟩ A5) g A5 nodes (l ++ [p]) := by
  have hA : ∀ k cs, Blk w k 5 cs → ¬ Of A k := fun k cs hk => h.row.ne_ hk (by decide)
  have hB : Blk w5 g 53 _ := h.blk.keep hf (h.row.ne_ h.blk (by decide))
  have hg : Fr (fun k => k = g) w5 (w5.setCell ⟨g, 1, none⟩ A5) := Fr.setCell (S := fun k => k = g) (Fr.refl _ w5) (fun _ => rfl) _
  have hd : ∀ q : Gr, OwnB 5 w q.v q.b → OwnB 5 w5 q.v q.b := fun q hq => hq.keep hf (fun k hk hk2 => by
    rcases hq.2 with ⟨h0, _⟩ | ⟨g', cap, cur, h0, hc, _⟩
    · rw [h0] at hk; exact Of_none hk
    · rw [h0] at hk
      rw [Of_some.1 hk] at hk2
      exact h.row.ne_ (g' := g') (cs' := cur) hc (by decide) hk2)
  refine ⟨hB.set_ 1 _, ?_, fun q hq => ?_, h.n1, h.n2, by simp; omega, fun q hq => ?_⟩
  · rw [List.length_append, rows_append, rows_one]
    exact ho.keep hg (fun k hk e => ho.ne_ hB (by decide) (e ▸ hk))
  · have hq2 : OwnB 5 w5 q.v q.b := by
      rcases List.mem_append.1 hq with hq | hq
      · exact hd q (h.data q hq)
      · rw [List.mem_singleton.1 hq]; exact hd p hp
    exact hq2.keep hg (fun k hk e => hq2.ne_ hB (by decide) (e ▸ hk))
  · rcases List.mem_append.1 hq with hq | hq
    · exact h.ok q hq
    · rw [List.mem_singleton.1 hq]; exact hok

theorem send_end {w w4 w5 : World} {g : Nat} {F : Nat → Prop} {A A5 v4 : Value} {nodes : Int} {L : List G3} {l : List Gr} {a z : Int} {b : List UInt8} {o : Obj} (H : IsN w g F nodes L) (hF : ∀ k, Its g A l k → F k) (hl : l.map Gr.abs = L) (c1 : 0 ≤ a ∧ a < nodes) (c2 : 0 ≤ z ∧ z < nodes) (c3 : ¬ 1048640 < b.length) (c4 : ¬ 4096 ≤ l.length)
    (H5 : IsNet (w4.alloc o) g A nodes l) (F4 : Fr No w.drew w4) (O4 : OwnB 5 w4 v4 b) (G4 : Grows w.drew No v4) (O5 : Own 29 3 w5 A5 (l.length + 1) (rows Gr.cells l ++ Gr.cells ⟨a, z, v4, b⟩)) (F5 : Fr (Of A) (w4.alloc o) w5) (G5 : ∀ k, Of A5 k → Of A k ∨ k = (w4.alloc o).heap.size) :
    IsN (w5.setCell ⟨g, 1, none⟩ A5) g (More w (w5.setCell ⟨g, 1, none⟩ A5) F) nodes (L ++ [(a, z, b)]) ∧ Fr F w (w5.setCell ⟨g, 1, none⟩ A5) := by
  have P5 := H5.push (p := ⟨a, z, v4, b⟩) (O4.alloc o) ⟨c1.1, c1.2, c2.1, c2.2, by show b.length ≤ 1048640; omega⟩ (by omega) O5 F5
  have s1 : w.heap.size ≤ w4.heap.size := F4.size
  have s2 : w4.heap.size + 1 ≤ w5.heap.size := by have := F5.size; simpa using this
  have hs : (w5.setCell ⟨g, 1, none⟩ A5).heap.size = w5.heap.size := by simp [World.setCell]
  refine ⟨P5.isN (by rw [List.map_append, hl]; rfl) ?_ ?_, ?_⟩
  · rintro k (rfl | hk | ⟨p, hp, hk⟩)
    · exact .inl (hF k (.inl rfl))
    · rcases G5 k hk with h | h
      · exact .inl (hF k (.inr (.inl h)))
      · have := O5.lt k hk
        simp at h
        exact .inr ⟨by omega, by rw [hs]; exact this⟩
    · rcases List.mem_append.1 hp with hp | hp
      · exact .inl (hF k (.inr (.inr ⟨p, hp, hk⟩)))
      · rw [List.mem_singleton.1 hp] at hk
        have h1 := O4.lt k hk
        rcases G4 k hk with h | h
        · exact absurd h (not_no k)
        · exact .inr ⟨h, by rw [hs]; omega⟩
  · rintro k (hk | hk)
    · have := H.lt k hk
      rw [hs]
      omega
    · exact hk.2
  · have f1 : Fr F w (w4.alloc o) := ((((Fr.refl No w).drew).fresh_no F4).alloc o).mono (fun k _ h => absurd h (not_no k))
    exact (f1.trans F5 (fun k _ hk => hF k (.inr (.inl hk)))).setCell (fun _ => hF g (.inl rfl)) _

set_option maxRecDepth 100000 in
set_option maxHeartbeats 2000000 in
theorem send_c {w : World} {g : Nat} {F : Nat → Prop} {nodes : Int} {L : List G3} (h : IsN w g F nodes L) (a z : Int) (y : Value) (b : List UInt8) (hy : RdB w y b) (hyl : b.length ≤ 140737488355328) (r : List G3 × Nat) (hr : sendL nodes L a z b = r) :
    Calls Try.prog 11 #[.pointer (some ⟨g, 0, none⟩), .int .i64 a, .int .i64 z, y] w (RetSend w g F nodes r) := by
  obtain ⟨Ay, cy, rfl, hcy⟩ := hy.slice
  obtain ⟨A, l, h1, hl, hF⟩ := h.ex
  have H := hid h
  have HI := hid h1
  have HR := hid hr
  have HY := hid hy
  have HLL := hid hl
  have HFF := hid hF
  have HQ := hid (show l.length = L.length by rw [← hl]; simp)
  obtain ⟨Al, cl, rfl, hcl, hclm⟩ := h1.row.slice
  have k1 := h1.c1
  have gf := h1.blk.frozen
  clear h h1 hr hy hl hF
  by_cases c1 : 0 ≤ a ∧ a < nodes
  · have e1 : decide (0 ≤ a ∧ a < nodes) = true := by simpa using c1
    by_cases c2 : 0 ≤ z ∧ z < nodes
    · have e2 : decide (0 ≤ z ∧ z < nodes) = true := by simpa using c2
      by_cases c3 : 1048640 < b.length
      · have hr2 : r = (L, 3) := by rw [← HR.out]; unfold sendL; rw [if_neg (by simp [c1, c2]), if_pos c3]
        subst hr2
        clear HR
        have HC := hid c1
        have HC2 := hid c2
        clear c1 c2
        go_enter Try.func11, Try.ntmps11
        go_wp2_with (first
          | (go_at_call 30; refine (none_c HI.out).mono ?_; rintro e w1 ⟨rfl, rfl⟩))
        refine (node_c HI.out a true e1).mono ?_
        rintro e wx ⟨rfl, rfl⟩
        go_wp2_with fail
        refine (node_c HI.out z true e2).mono ?_
        rintro e wx ⟨rfl, rfl⟩
        go_wp2_with fail
        go_ret
        exact ⟨rfl, H.out.more, Fr.refl _ _⟩
      · by_cases c4 : 4096 ≤ l.length
        · have hr2 : r = (L, 5) := by rw [← HR.out]; unfold sendL; rw [if_neg (by simp [c1, c2]), if_neg c3, if_pos (by rw [← HQ.out]; exact c4)]
          subst hr2
          clear HR
          have HC := hid c1
          have HC2 := hid c2
          clear c1 c2
          go_enter Try.func11, Try.ntmps11
          go_wp2_with (first
            | (go_at_call 30; refine (none_c HI.out).mono ?_; rintro e w1 ⟨rfl, rfl⟩))
          refine (node_c HI.out a true e1).mono ?_
          rintro e wx ⟨rfl, rfl⟩
          go_wp2_with fail
          refine (node_c HI.out z true e2).mono ?_
          rintro e wx ⟨rfl, rfl⟩
          go_wp2_with fail
          go_ret
          exact ⟨rfl, H.out.more, Fr.refl _ _⟩
        · have hr2 : r = (L ++ [(a, z, b)], 0) := by rw [← HR.out]; unfold sendL; rw [if_neg (by simp [c1, c2]), if_neg c3, if_neg (by rw [← HQ.out]; exact c4)]
          subst hr2
          clear HR
          have HC := hid c1
          have HC2 := hid c2
          have HYL := hid hyl
          clear c1 c2 hyl
          go_enter Try.func11, Try.ntmps11
          go_wp2_with (first
            | (go_at_call 30; refine (none_c HI.out).mono ?_; rintro e w1 ⟨rfl, rfl⟩))
          refine (node_c HI.out a true e1).mono ?_
          rintro e wx ⟨rfl, rfl⟩
          go_wp2_with fail
          refine (node_c HI.out z true e2).mono ?_
          rintro e wx ⟨rfl, rfl⟩
          go_wp2_with fail
          have HYD := hid (show RdB wx.drew (.slice Ay b.length cy) b from HY.out.keep ((Fr.refl No wx).drew) (fun k _ => not_no k))
          have HID := hid (HI.out.keep ((Fr.refl No wx).drew) (fun k _ => not_no k))
          go_region_law ((first
            | (refine step_fn (by rfl) 32 (.tmp 41) 26 (by rfl) (.slice Ay b.length cy) (by rfl) (fun v w' => OwnB 5 w' v b ∧ Fr No wx.drew w' ∧ Grows wx.drew No v) ((clone_c _ b wx.drew HYD.out HYL.out).mono (fun e w' h => by obtain ⟨v, h1, h2, h3, h4⟩ := h; exact ⟨v, h1, h2, h3, h4⟩)) (by rfl) ?_
               intro v4 w4 hq4
               have O4 := hid hq4.1
               have F4 := hid hq4.2.1
               have G4 := hid hq4.2.2
               clear hq4
               obtain ⟨A4, c4', rfl, hc4'⟩ := O4.out.slice
               have H4 := hid (HID.out.keep F4.out (fun k _ => not_no k))
               have k14 := H4.out.c1
               have gf4 := H4.out.blk.frozen
               have H5 := hid (H4.out.keep ((Fr.refl No w4).alloc (.cells #[.int .i64 a, .int .i64 z, .slice A4 b.length c4'] 29)) (fun k _ => not_no k))
               have k15 := H5.out.c1
               have gf5 := H5.out.blk.frozen
               have B5 := hid (Blk.new w4 29 #[.int .i64 a, .int .i64 z, .slice A4 b.length c4']))
            | (refine step_app _ (by rfl) (.tmp 38) (.tmp 44) 38 (by rfl) 29 _ 3 40 Try.underlying38 infoG (by rfl) (.slice Al l.length cl) l.length (rows Gr.cells l) (by rfl) H5.out.row (.slice (some ⟨w4.heap.size, 0, none⟩) 1 1) 1 (Gr.cells ⟨a, z, .slice A4 b.length c4', b⟩) (by rfl) (Rd.lit1 w4 29 #[.int .i64 a, .int .i64 z, .slice A4 b.length c4'] 3 (by rfl)) (by intro u hu; simp only [Gr.cells, List.mem_cons, List.not_mem_nil, or_false] at hu; rcases hu with rfl | rfl | rfl <;> rfl) (by simp only [maxLen]; omega) (by omega) ?_
               intro v5 w5 o5 f5 g5
               have O5 := hid o5
               have F5 := hid f5
               have G5 := hid g5
               clear o5 f5 g5
               obtain ⟨A5, c5', rfl, hc5', hc5m⟩ := O5.out.slice
               have BG5 := hid (H5.out.blk.keep F5.out (H5.out.row.ne_ H5.out.blk (by decide)))
               have k16 := BG5.out.cell 1
               have gf6 := BG5.out.frozen)))
          all_goals
            have hend := hid (send_end H.out HFF.out HLL.out HC.out HC2.out c3 c4 H5.out F4.out O4.out G4.out O5.out F5.out G5.out)
            go_wp2_with fail
            go_ret
            exact ⟨rfl, hend.out.1, hend.out.2⟩
    · have e2 : decide (0 ≤ z ∧ z < nodes) = false := by simpa using c2
      have hr2 : r = (L, 2) := by rw [← HR.out]; unfold sendL; rw [if_pos (by simp [c2])]
      subst hr2
      clear HR
      have HC := hid c1
      have HC2 := hid c2
      clear c1 c2
      go_enter Try.func11, Try.ntmps11
      go_wp2_with (first
        | (go_at_call 30; refine (none_c HI.out).mono ?_; rintro e w1 ⟨rfl, rfl⟩))
      refine (node_c HI.out a true e1).mono ?_
      rintro e wx ⟨rfl, rfl⟩
      go_wp2_with fail
      refine (node_c HI.out z false e2).mono ?_
      rintro e wx ⟨rfl, rfl⟩
      go_wp2_with fail
      go_ret
      exact ⟨rfl, H.out.more, Fr.refl _ _⟩
  · have e1 : decide (0 ≤ a ∧ a < nodes) = false := by simpa using c1
    have hr2 : r = (L, 2) := by rw [← HR.out]; unfold sendL; rw [if_pos (by simp [c1])]
    subst hr2
    clear HR
    have HC := hid c1
    clear c1
    go_enter Try.func11, Try.ntmps11
    go_wp2_with (first
      | (go_at_call 30; refine (none_c HI.out).mono ?_; rintro e w1 ⟨rfl, rfl⟩))
    refine (node_c HI.out a false e1).mono ?_
    rintro e wx ⟨rfl, rfl⟩
    go_wp2_with fail
    go_ret
    exact ⟨rfl, H.out.more, Fr.refl _ _⟩
end Go.Proofs.Ytjgcibjodiefkaa
