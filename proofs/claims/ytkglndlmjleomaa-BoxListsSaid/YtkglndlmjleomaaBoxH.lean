import Derived.Test.YtkglndlmjleomaaBoxG
/-! Clone of a row of mails. -/
namespace Go.Proofs.Ytkglndlmjleomaa
open Go.RowKit
set_option linter.unusedVariables false
set_option linter.unusedSimpArgs false

theorem cells_one (l : List MailA) : ∀ u ∈ cellsOf l, u.oneCell' = true := by
  intro u hu
  unfold cellsOf at hu
  obtain ⟨m, _, hm⟩ := List.mem_flatMap.1 hu
  exact mail_one m u hm
set_option maxRecDepth 100000 in
set_option maxHeartbeats 400000 in
theorem cloneM_c (w : World) (a : Addr) (c : Nat) (l : List MailA) (hl : l.length ≤ 64) (hv : Rd 6 w (.slice (some a) l.length c) l.length (cellsOf l)) :
    Calls Try.prog 28 #[.slice (some a) l.length c] w fun e w' => ∃ v', e = .returned v' ∧ Own 30 6 w' v' l.length (cellsOf l) ∧ Fr No w w' ∧ ∀ x, Of v' x → w.heap.size ≤ x := by
  have kn := fun (w : World) (a : Option Addr) (n c : Nat) => Lib.run_eql_slice_nil (P := Try.prog) w 39 30 a n c 0 0 Try.underlying39
  have HV := hid (hv.keep ((Fr.refl No w).alloc (.cells #[] 30)) (fun k _ => not_no k))
  have HO := hid (show Own 30 6 (w.alloc (.cells #[] 30)) (.slice (some ⟨w.heap.size, 0, none⟩) 0 0) 0 [] from Own.new w _ #[] 0 0 [] (by omega) (by omega) (by simp) (by simp))
  have HL := hid hl
  clear hv hl
  go_enter Try.func28, Try.ntmps28
  go_wp2_with (at_builtin; refine wpl_app _ rfl (.tmp 5) (.tmp 6) _ rfl 30 mail0 6 72 Try.underlying39 infoM (by rfl) _ 0 [] rfl HO.out _ l.length (cellsOf l) rfl HV.out (cells_one l) (by have := HL.out; simp only [maxLen]; omega) (by have := HL.out; omega) ?_; intro v1 w1 O1 F1 G1)
  go_ret
  refine ⟨v1, rfl, by simpa using O1, ((Fr.refl No w).alloc _).fresh F1 (fun k hk => by have := Of_some.1 hk; dsimp only at this; omega), fun x hx => ?_⟩
  rcases G1 x hx with h | h
  · have := Of_some.1 h; dsimp only at this; omega
  · rw [h]; exact ((Fr.refl No w).alloc _).size
end Go.Proofs.Ytkglndlmjleomaa
