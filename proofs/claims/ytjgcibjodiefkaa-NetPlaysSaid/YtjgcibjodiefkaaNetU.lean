import Derived.Test.YtjgcibjodiefkaaNetS
/-! The document's net, by value: Take, Copy, Forget. -/
namespace Go.Proofs.Ytjgcibjodiefkaa
open Go.RowKit
set_option linter.unusedVariables false
set_option linter.unusedSimpArgs false

/-- the list then, a datagram, whether there was one -/
def RetRT (w : World) (nodes : Int) (v : Value) (m : List Gr) (L' : List G3) (r : G3 × Bool) : Ending → World → Prop := fun e w' => ∃ v' m' u, e = .returned (.tuple #[refV nodes v', .agg #[.int .i64 r.1.1, .int .i64 r.1.2.1, u], .bool r.2]) ∧ RefTo w w' v m v' m' L' ∧ OwnB 5 w' u r.1.2.2
def RetRI (w : World) (nodes : Int) (v : Value) (m : List Gr) (L' : List G3) (n : Int) : Ending → World → Prop := fun e w' => ∃ v' m', e = .returned (.tuple #[refV nodes v', .int .i64 n]) ∧ RefTo w w' v m v' m' L'

theorem RefTo.stores {w w5 w6 : World} {v v' : Value} {m m' : List Gr} {L' : List G3} {b1 b2 : Nat} {cs cs' : Array Value} (h : RefTo w w5 v m v' m' L') (E4 : Blk w5 b1 40 cs) (E5 : Blk w5 b2 29 cs') (n1 : w.heap.size ≤ b1) (n2 : w.heap.size ≤ b2) (hv : ∀ k, Of v' k → k ≠ b1 ∧ k ≠ b2) (hf : Fr (fun k => k = b1 ∨ k = b2) w5 w6) : RefTo w w6 v m v' m' L' ∧ ∀ u ys, OwnB 5 w5 u ys → OwnB 5 w6 u ys := by
  have key : ∀ u ys, OwnB 5 w5 u ys → OwnB 5 w6 u ys := fun u ys hu => hu.keep hf (fun k hk h2 => by
    rcases h2 with rfl | rfl
    · exact hu.ne_ E4 (by decide) hk
    · exact hu.ne_ E5 (by decide) hk)
  refine ⟨⟨⟨h.ref.own.keep hf (fun k hk h2 => ?_), fun p hp => key _ _ (h.ref.data p hp)⟩, h.abs, h.fr.fresh hf ?_, h.row, h.dat⟩, key⟩
  · rcases h2 with rfl | rfl
    · exact (hv k hk).1 rfl
    · exact (hv k hk).2 rfl
  · rintro k (rfl | rfl)
    · exact n1
    · exact n2

set_option maxRecDepth 100000 in
set_option maxHeartbeats 1000000 in
theorem rtake_c {w : World} {v : Value} {m : List Gr} (h : RefL w v m) (hm : m.length ≤ 4096) (nodes i : Int) (r : G3 × Bool) (hr : lookL (m.map Gr.abs) i = r) (L' : List G3) (hL : takeL (m.map Gr.abs) i = L') :
    Calls Try.prog 21 #[refV nodes v, .int .i64 i] w (RetRT w nodes v m L' r) := by
  obtain ⟨A, c, rfl, hc, hcm⟩ := h.own.slice
  have H := hid h
  by_cases c1 : 0 ≤ i ∧ i < m.length
  · obtain ⟨i, rfl⟩ := Int.eq_ofNat_of_zero_le c1.1
    have c2 : i < m.length := by have := c1.2; omega
    have hW : Fr No w (((w.alloc (.cells #[.int .i64 nodes, .slice A m.length c] 40)).alloc (.cells #[.int .i64 0, .slice none 0 0] 40)).alloc (.cells #[.int .i64 0, .int .i64 0, .slice none 0 0] 29)) := (((Fr.refl No w).alloc _).alloc _).alloc _
    have D2 := hid (((Blk.new w 40 #[.int .i64 nodes, .slice A m.length c]).alloc (.cells #[.int .i64 0, .slice none 0 0] 40)).alloc (.cells #[.int .i64 0, .int .i64 0, .slice none 0 0] 29))
    have D4 := hid ((Blk.new_ (w.alloc (.cells #[.int .i64 nodes, .slice A m.length c] 40)) 40 #[.int .i64 0, .slice none 0 0] (w.heap.size + 1) (by simp)).alloc (.cells #[.int .i64 0, .int .i64 0, .slice none 0 0] 29))
    have D5 := hid (Blk.new_ ((w.alloc (.cells #[.int .i64 nodes, .slice A m.length c] 40)).alloc (.cells #[.int .i64 0, .slice none 0 0] 40)) 29 #[.int .i64 0, .int .i64 0, .slice none 0 0] (w.heap.size + 1 + 1) (by simp))
    have HS0 := hid (show (((w.alloc (.cells #[.int .i64 nodes, .slice A m.length c] 40)).alloc (.cells #[.int .i64 0, .slice none 0 0] 40)).alloc (.cells #[.int .i64 0, .int .i64 0, .slice none 0 0] 29)).heap.size = w.heap.size + 3 by simp)
    have HW := hid hW
    obtain ⟨b, off, c1', p, A', c', hv, hc', hp, hpm, hpv, r0, r1, r2⟩ := rdG_at (H.out.keep hW).own.rd (fun q hq => ((H.out.keep hW).data q hq).rd) c2
    injection hv with hv _ hcc
    subst hv hcc
    have hr2 : r = (p.abs, true) := by rw [← hr]; exact look_ok (by rw [List.getElem?_map, hp]; rfl)
    have hL2 : L' = (m.eraseIdx i).map Gr.abs := by rw [← hL]; unfold takeL; rw [if_pos (by rw [List.length_map]; omega)]; simp [List.eraseIdx_eq_take_drop_succ]
    subst hr2 hL2
    have hb : b < w.heap.size := by have := H.out.own.lt b (by simp [Value.ownBlock]); exact this
    have n1 : ¬ b = w.heap.size + 1 := by omega
    have n2 : ¬ b = w.heap.size + 1 + 1 := by omega
    have n3 : ¬ w.heap.size + 1 = b := by omega
    have n4 : ¬ w.heap.size + 1 + 1 = b := by omega
    have n5 : ¬ w.heap.size = w.heap.size + 1 + 1 := by omega
    have n6 : ¬ w.heap.size + 1 + 1 = w.heap.size := by omega
    have n7 : ¬ w.heap.size = w.heap.size + 1 := by omega
    have n8 : ¬ w.heap.size + 1 = w.heap.size := by omega
    have HPV := hid hpv
    have HPM := hid hpm
    obtain ⟨x0, x1, xf⟩ := D2.out.two
    clear h hr hL c1 hp hpm hpv hW
    unfold refV
    go_enter Try.func21, Try.ntmps21
    go_wp2_with fail
    generalize ((w.alloc (.cells #[.int .i64 nodes, .slice (some ⟨b, off, none⟩) m.length c] 40)).alloc (.cells #[.int .i64 0, .slice none 0 0] 40)).alloc (.cells #[.int .i64 0, .int .i64 0, .slice none 0 0] 29) = W at *
    have RD := hid (H.out.keep HW.out.drew)
    go_region_held3 (fun w' => w'.cell? ⟨w.heap.size, 0, none⟩ = some (.int .i64 nodes) ∧ w'.cell? ⟨w.heap.size, 1, none⟩ = some (.slice (some ⟨b, off, none⟩) m.length c) ∧ w'.cell? ⟨b, off + i * 3, none⟩ = some (.int .i64 p.a) ∧ w'.cell? ⟨b, off + i * 3 + 1, none⟩ = some (.int .i64 p.z) ∧ w'.cell? ⟨b, off + i * 3 + 2, none⟩ = some (.slice A' p.b.length c'))
      (go_keep)
      ((first
      | (go_at_call 36
         refine (without_c RD.out hm nodes i c2).mono ?_
         rintro e w5 ⟨v5, rfl, T5⟩
         obtain ⟨A5, c5', rfl, hc5', hm5'⟩ := T5.ref.own.slice
         generalize hne : (m.eraseIdx i).length = ne at T5 hc5' ⊢
         have HNE := hid hne
         clear hne
         have HT5 := hid (T5.from HW.out.drew)
         have E4 := hid (D4.out.drew.keep T5.fr (not_no _))
         have E5 := hid (D5.out.drew.keep T5.fr (not_no _))
         have NW := hid (show ∀ k, Of (.slice A5 ne c5') k → k = b ∨ w.heap.size + 3 ≤ k from fun k hk => (T5.row k hk).imp (fun h => Of_some.1 h) (fun h => by have h2 := HS0.out; have h3 : W.drew.heap.size = W.heap.size := rfl; omega))
         have s0 := T5.fr.cs (show W.drew.cell? _ = _ from x0)
         have s1 := T5.fr.cs (show W.drew.cell? _ = _ from x1)
         have s2 := T5.fr.cs (show W.drew.cell? _ = _ from r0)
         have s3 := T5.fr.cs (show W.drew.cell? _ = _ from r1)
         have s4 := T5.fr.cs (show W.drew.cell? _ = _ from r2)
         obtain ⟨e0, e1, ef⟩ := E4.out.two
         obtain ⟨f0, f1, f2, ff⟩ := E5.out.three
         clear T5
         unfold refV)
      | fail))
    go_wp2_with fail
    refine ⟨rfl, ?_⟩
    refine ⟨.tuple #[.agg #[.int .i64 nodes, .slice A5 ne c5'], .agg #[.int .i64 p.a, .int .i64 p.z, .slice A' p.b.length c'], .bool true], ?_, ?_⟩
    · have hres : Try.f21.results = #[.cell 4 40, .cell 5 29, .tmp 6] := rfl
      simp [results, hres, asAddr]
      try go_simp
    · have hq := HT5.out.stores E4.out E5.out (by omega) (by omega) (fun k hk => by rcases NW.out k hk with h | h <;> constructor <;> omega) (w6 := ((((w5.setCell ⟨w.heap.size + 1, 0, none⟩ (.int .i64 nodes)).setCell ⟨w.heap.size + 1, 1, none⟩ (.slice A5 ne c5')).setCell ⟨w.heap.size + 1 + 1, 0, none⟩ (.int .i64 p.a)).setCell ⟨w.heap.size + 1 + 1, 1, none⟩ (.int .i64 p.z)).setCell ⟨w.heap.size + 1 + 1, 2, none⟩ (.slice A' p.b.length c')) (Fr.setCell (Fr.setCell (Fr.setCell (Fr.setCell (Fr.setCell (Fr.refl _ w5) (fun _ => .inl rfl) _) (fun _ => .inl rfl) _) (fun _ => .inr rfl) _) (fun _ => .inr rfl) _) (fun _ => .inr rfl) _)
      refine ⟨_, m.eraseIdx i, .slice A' p.b.length c', rfl, hq.1, ?_⟩
      refine hq.2 _ _ ?_
      rw [← HPV.out]
      exact (H.out.data p HPM.out).keep HT5.out.fr (fun k _ => not_no k)
  · have hr2 : r = ((0, 0, []), false) := by rw [← hr]; unfold lookL; rw [if_neg (by rw [List.length_map]; exact c1)]
    have hL2 : L' = m.map Gr.abs := by rw [← hL]; unfold takeL; rw [if_neg (by rw [List.length_map]; exact c1)]
    subst hr2 hL2
    have hW : Fr No w (((w.alloc (.cells #[.int .i64 nodes, .slice A m.length c] 40)).alloc (.cells #[.int .i64 0, .slice none 0 0] 40)).alloc (.cells #[.int .i64 0, .int .i64 0, .slice none 0 0] 29)) := (((Fr.refl No w).alloc _).alloc _).alloc _
    have D2 := hid (((Blk.new w 40 #[.int .i64 nodes, .slice A m.length c]).alloc (.cells #[.int .i64 0, .slice none 0 0] 40)).alloc (.cells #[.int .i64 0, .int .i64 0, .slice none 0 0] 29))
    have D4 := hid ((Blk.new_ (w.alloc (.cells #[.int .i64 nodes, .slice A m.length c] 40)) 40 #[.int .i64 0, .slice none 0 0] (w.heap.size + 1) (by simp)).alloc (.cells #[.int .i64 0, .int .i64 0, .slice none 0 0] 29))
    have D5 := hid (Blk.new_ ((w.alloc (.cells #[.int .i64 nodes, .slice A m.length c] 40)).alloc (.cells #[.int .i64 0, .slice none 0 0] 40)) 29 #[.int .i64 0, .int .i64 0, .slice none 0 0] (w.heap.size + 1 + 1) (by simp))
    have HW := hid hW
    clear h hr hL hW
    have hcs : i < 0 ∨ (¬ i < 0 ∧ (m.length : Int) ≤ i) := by omega
    clear c1
    unfold refV
    rcases hcs with g1 | ⟨g1, g2⟩
    all_goals
      go_enter Try.func21, Try.ntmps21
      go_wp2_with fail
      refine ⟨rfl, ?_⟩
      refine ⟨.tuple #[.agg #[.int .i64 nodes, .slice A m.length c], .agg #[.int .i64 0, .int .i64 0, .slice none 0 0], .bool false], ?_, ?_⟩
      · have hres : Try.f21.results = #[.cell 4 40, .cell 5 29, .tmp 6] := rfl
        simp [results, hres, asAddr]
        try go_simp
      · refine ⟨_, m, .slice none 0 0, rfl, H.out.same ?_, OwnB.nil _ _⟩
        first
          | exact ((Fr.refl No w).alloc _).alloc _ |>.alloc _
          | (repeat (first | exact HW.out | refine Fr.setCell ?_ (fun h => absurd h (by simp; omega)) _))
end Go.Proofs.Ytjgcibjodiefkaa
