import Derived.Test.YtkglndlmjleomaaBoxE
import Derived.Deep.RegionHeldLaw
/-! Put, where there is room. -/
namespace Go.Proofs.Ytkglndlmjleomaa
open Go.RowKit
set_option linter.unusedVariables false
set_option linter.unusedSimpArgs false

theorem infoM : (Try.prog.info? 30).map (fun i => (i.zero, i.size, i.bytes)) = some (some mail0, 6, 72) := by kernel_rfl
theorem mail_one (m : MailA) : ∀ u ∈ m.cells.toList, u.oneCell' = true := by
  intro u hu
  simp [MailA.cells] at hu
  rcases hu with rfl | rfl | rfl | rfl | rfl | rfl <;> rfl
theorem Rd.mail (w : World) (m : MailA) : Rd 6 (w.alloc (.cells m.cells 30)) (.slice (some ⟨w.heap.size, 0, none⟩) 1 1) 1 m.cells.toList := by
  refine ⟨some ⟨w.heap.size, 0, none⟩, 1, rfl, by omega, rfl, fun _ => ⟨w.heap.size, 0, rfl, by simp, fun j u hu => ?_⟩⟩
  have h := (Blk.new w 30 m.cells).cell j
  rw [Nat.zero_add, h]
  simpa using hu
/-- what Put leaves -/
def RetPut (w : World) (g b : Nat) (n : Int) (ms : List (Int × Value)) (f : Int → List MailA) (m : MailA) : Ending → World → Prop := fun e w' => ∃ v, e = .returned (.int .i64 0) ∧ IsBox w' g b n (putM m.to v ms) (fun x => if x = m.to then f m.to ++ [m] else f x) ∧ Fr (fun x => Of (rowOf ms m.to) x ∨ x = b) w w' ∧ ∀ x, Of v x → Of (rowOf ms m.to) x ∨ w.heap.size ≤ x
set_option maxRecDepth 100000 in
set_option maxHeartbeats 1000000 in
theorem put_room {w : World} {g b : Nat} {n : Int} {ms : List (Int × Value)} {f : Int → List MailA} (h : IsBox w g b n ms f) (m : MailA) (ht : m.tag.size ≤ 255) (hf : (f m.to).length < n) (hn : n ≤ 64) :
    Calls Try.prog 13 #[.pointer (some ⟨g, 0, none⟩), .agg m.cells] w (RetPut w g b n ms f m) := by
  obtain ⟨a, by0, c, d, t⟩ := m
  replace ht : t.size ≤ 255 := ht
  replace hf : (f d).length < n := hf
  have d1 : ¬ (255 : Int) < t.size := by omega
  obtain ⟨A, cap, hrow, hcap, _⟩ := (h.row d).slice
  have H := hid (h.keep ((Fr.refl No w).alloc (.cells #[.int .i64 a, .int .i64 by0, .int .i64 c, .int .i64 d, .string t, .slice none 0 0] 30)))
  obtain ⟨W, hW⟩ : ∃ W, w.alloc (.cells #[.int .i64 a, .int .i64 by0, .int .i64 c, .int .i64 d, .string t, .slice none 0 0] 30) = W := ⟨_, rfl⟩
  have HB := hid (show Blk W w.heap.size 30 #[.int .i64 a, .int .i64 by0, .int .i64 c, .int .i64 d, .string t, .slice none 0 0] from hW ▸ Blk.new w _ _)
  have HF := hid (show Fr No w W from hW ▸ (Fr.refl No w).alloc _)
  rw [hW] at H
  have HOLD := hid (show ∀ x, Of (rowOf ms d) x → x < w.heap.size from fun x hx => (h.row d).lt x hx)
  have HW := hid hW
  have hl := fun k => look_eq (H.out.map.keep ((Fr.refl No W).drewN k) (not_no _)) d
  rw [hrow] at hl
  have HROW := hid hrow
  obtain ⟨c0, c1, cf⟩ := H.out.blk.pair
  have m0 := HB.out.cell 0
  have m1 := HB.out.cell 1
  have m2 := HB.out.cell 2
  have m3 := HB.out.cell 3
  have m4 := HB.out.cell 4
  have m5 := HB.out.cell 5
  have mf := HB.out.frozen
  have e1 : ¬ n ≤ ((f d).length : Int) := by omega
  clear hW h hrow
  unfold MailA.cells
  dsimp only
  go_enter Try.func13, Try.ntmps13
  go_wp2_with fail
  rw [HW.out]
  refine (right_yes H.out.blk).mono ?_
  rintro e wx ⟨rfl, rfl⟩
  go_wp2_with fail
  refine (contains_nil _ _).mono ?_
  rintro e wx2 ⟨rfl, rfl⟩
  go_wp2_with fail
  go_quiet (fail)
  have H1 := hid (H.out.keep ((Fr.refl No wx2).drewN nq))
  have HB1 := hid (HB.out.keep ((Fr.refl No wx2).drewN nq) (not_no _))
  have HF1 := hid (HF.out.drewN nq)
  clear c0 c1 cf m0 m1 m2 m3 m4 m5 mf hl
  go_wp2_with fail
  obtain ⟨V, hV⟩ : ∃ V, wx2.drewN nq = V := ⟨_, rfl⟩
  rw [hV] at H1 HB1 HF1 ⊢
  clear hV
  have KS := hid (show ∀ w', Fr (fun x => Of (rowOf ms d) x ∨ x = b) V w' → (w'.cell? ⟨g, 1, none⟩ = some (.map (some b)) ∧ w'.cell? ⟨w.heap.size, 0, none⟩ = some (.int .i64 a) ∧ w'.cell? ⟨w.heap.size, 1, none⟩ = some (.int .i64 by0) ∧ w'.cell? ⟨w.heap.size, 2, none⟩ = some (.int .i64 c) ∧ w'.cell? ⟨w.heap.size, 3, none⟩ = some (.int .i64 d) ∧ w'.cell? ⟨w.heap.size, 4, none⟩ = some (.string t) ∧ w'.cell? ⟨w.heap.size, 5, none⟩ = some (.slice none 0 0)) from fun w' hf => by
    have hb1 := H1.out.blk.keep hf (fun e => e.elim (fun e => (H1.out.row d).ne_ H1.out.blk (by decide) e) (fun e => H1.out.blk.not_map H1.out.map e))
    have hold : ¬ Of (rowOf ms d) w.heap.size := fun e => absurd (HOLD.out _ e) (by omega)
    have hb2 := HB1.out.keep hf (fun e => e.elim hold (fun e => HB1.out.not_map H1.out.map e))
    exact ⟨hb1.cell 1, hb2.cell 0, hb2.cell 1, hb2.cell 2, hb2.cell 3, hb2.cell 4, hb2.cell 5⟩)
  have hl0 := look_eq (H1.out.map.keep ((Fr.refl No V).drew) (not_no _)) d
  rw [HROW.out] at hl0
  have hbd : (f d).length + 1 ≤ 64 := by omega
  have HBD := hid hbd
  clear hbd
  go_region_held_law (fun w' => w'.cell? ⟨g, 1, none⟩ = some (.map (some b)) ∧ w'.cell? ⟨w.heap.size, 0, none⟩ = some (.int .i64 a) ∧ w'.cell? ⟨w.heap.size, 1, none⟩ = some (.int .i64 by0) ∧ w'.cell? ⟨w.heap.size, 2, none⟩ = some (.int .i64 c) ∧ w'.cell? ⟨w.heap.size, 3, none⟩ = some (.int .i64 d) ∧ w'.cell? ⟨w.heap.size, 4, none⟩ = some (.string t) ∧ w'.cell? ⟨w.heap.size, 5, none⟩ = some (.slice none 0 0))
    (first
      | exact KS.out _ ((Fr.refl _ V).drew)
      | exact KS.out _ HK4.out
      | exact KS.out _ (HK4.out.alloc _)
      | exact KS.out _ HK9.out
      | exact KS.out _ HK10.out
      | fail)
    (first
      | (go_at_call 34; refine (copied_nil _ ⟨a, by0, c, d, t⟩).mono ?_; rintro e w4 ⟨rfl, F4⟩; have HK4 := hid (show Fr (fun x => Of (rowOf ms d) x ∨ x = b) V w4 from (((Fr.refl No V).drew).fresh_no F4).mono (fun x _ h => absurd h (not_no x))); have HF4 := hid (((Fr.refl No V).drew).fresh_no F4); have hl4 := look_eq (H1.out.map.keep HF4.out (not_no _)) d; have hl5 := look_eq (H1.out.map.keep (HF4.out.alloc (.cells #[.int .i64 a, .int .i64 by0, .int .i64 c, .int .i64 d, .string t, .slice none 0 0] 30)) (not_no _)) d; rw [HROW.out] at hl4 hl5; unfold MailA.cells; clear F4)
      | (refine step_app _ (by rfl) (.tmp 51) (.tmp 54) _ (by rfl) 30 mail0 6 72 Try.underlying39 infoM (by rfl) _ _ _ (by rfl) (HROW.out ▸ (H1.out.row d).keep (HF4.out.alloc (.cells #[.int .i64 a, .int .i64 by0, .int .i64 c, .int .i64 d, .string t, .slice none 0 0] 30)) (fun x _ => not_no x)) _ 1 _ (by rfl) (Rd.mail w4 ⟨a, by0, c, d, t⟩) (mail_one _) (by have := HBD.out; simp only [maxLen]; omega) (by have := HBD.out; omega) ?_
         intro v9 w9 O9 F9 G9
         have HN9 := hid (show Fr (Of (rowOf ms d)) V w9 from ((HF4.out.alloc _).mono (fun x _ h => absurd h (not_no x))).trans F9 (fun x hx h => by rw [HROW.out]; exact h))
         have HK9 := hid (show Fr (fun x => Of (rowOf ms d) x ∨ x = b) V w9 from HN9.out.mono (fun x _ h => .inl h))
         obtain ⟨w10, hrun, M10, F10⟩ := run_put (P := Try.prog) (T := 44) (K := 2) (E := 39) Try.underlying44 Try.underlying2 (H1.out.map.keep HN9.out ((H1.out.row d).not_map H1.out.map)) d v9
         have HK10 := hid (HK9.out.trans F10 (fun x _ h => .inr h))
         have HR := hid (And.intro O9 (And.intro F9 (And.intro G9 (And.intro M10 F10))))
         clear O9 F9 G9 M10 F10))
  all_goals
    have HG := HR.out.2.2.1
    have HVS := HF1.out.size
    have H4S := HF4.out.size
    have HO := hid (show Own 30 6 w9 v9 (f d ++ [MailA.mk a by0 c d t]).length (cellsOf (f d ++ [MailA.mk a by0 c d t])) from by rw [cellsOf_snoc, List.length_append]; exact HR.out.1)
    have HX := hid (show ∀ x, Of v9 x → Of (rowOf ms d) x ∨ V.heap.size ≤ x from fun x hx => (HG x hx).elim (fun h => .inl (by rw [HROW.out]; exact h)) (fun h => .inr (by rw [h]; exact Nat.le_trans H4S ((Fr.refl No w4).alloc _).size)))
    have HZ := hid (IsBox.put H1.out d v9 (f d ++ [MailA.mk a by0 c d t]) (by simp) HO.out HN9.out HX.out HR.out.2.2.2.1 HR.out.2.2.2.2)
    have HFE := hid (show Fr (fun x => Of (rowOf ms d) x ∨ x = b) w w10 from (HF1.out.mono (fun x _ h => absurd h (not_no x))).trans HK10.out (fun x _ h => h))
    have HXE := hid (show ∀ x, Of v9 x → Of (rowOf ms d) x ∨ w.heap.size ≤ x from fun x hx => (HX.out x hx).imp id (fun h => Nat.le_trans HVS h))
    clear HG HVS H4S HR
    go_wp2_with fail
    go_ret
    exact ⟨v9, rfl, HZ.out, HFE.out, HXE.out⟩
end Go.Proofs.Ytkglndlmjleomaa
