import Derived.Test.YtfbhcapcnkcfdaaDiskC
import Derived.RegionTactic
import Derived.BigRegion
/-! The contracts of package disk: Cut. -/
namespace Go.Proofs.Ytfbhcapcnkcfdaa
open Go.RowKit
set_option linter.unusedVariables false
set_option linter.unusedSimpArgs false

def cutD (d : DSt) (n : Int) : DSt × Nat := operD d (if n < 0 ∨ (d.bytes.length : Int) < n then 2 else 0) (fun d => { d with bytes := d.bytes.take n.toNat, synced := n.toNat })

set_option maxHeartbeats 1000000 in
theorem cut1_c {w : World} {g : Nat} {v : Value} {d : DSt} (h : IsDisk w g v d) (n : Int) (pn pd : Nat) (h1 : w.cell? ⟨pn, 0, none⟩ = some (.int .i64 n)) (h2 : w.cell? ⟨pd, 0, none⟩ = some (.pointer (some ⟨g, 0, none⟩))) :
    Calls Try.prog 43 #[.pointer (some ⟨pn, 0, none⟩), .pointer (some ⟨pd, 0, none⟩)] w
      fun e w' => ∃ nq, e = .returned (.int .i64 ((if n < 0 ∨ (d.bytes.length : Int) < n then 2 else 0 : Nat) : Int)) ∧ w' = w.drewN nq := by
  obtain ⟨A, c, rfl, hc⟩ := h.own.slice
  have k2 := h.c2
  obtain ⟨rr, hrr⟩ : ∃ rr, (if n < 0 ∨ (d.bytes.length : Int) < n then 2 else 0 : Nat) = rr := ⟨_, rfl⟩
  rw [hrr]
  have HR := hid hrr
  clear h hrr
  by_cases c1 : n < 0
  · have c1' : decide (n < 0) = true := by simp; omega
    go_enter Try.func43, Try.ntmps43
    go_wp2
    go_quiet (fail)
    go_wp2
    go_ret
    have := HR.out
    rw [if_pos (.inl c1)] at this
    exact ⟨nq, by rw [← this]; rfl, rfl⟩
  · have c1' : decide (n < 0) = false := by simp; omega
    by_cases c2 : (d.bytes.length : Int) < n
    · go_enter Try.func43, Try.ntmps43
      go_wp2
      go_quiet (fail)
      go_wp2
      go_ret
      have := HR.out
      rw [if_pos (.inr c2)] at this
      exact ⟨nq, by rw [← this]; rfl, rfl⟩
    · go_enter Try.func43, Try.ntmps43
      go_wp2
      go_quiet (fail)
      go_wp2
      go_ret
      have := HR.out
      rw [if_neg (by omega)] at this
      exact ⟨nq, by rw [← this]; rfl, rfl⟩

set_option maxHeartbeats 4000000 in
theorem cut2_c {w : World} {g : Nat} {v : Value} {d : DSt} (h : IsDisk w g v d) (n : Nat) (hn : n ≤ d.bytes.length) (pn pd : Nat) (hne : pn ≠ g) (hne2 : pd ≠ g) (h1 : w.cell? ⟨pn, 0, none⟩ = some (.int .i64 n)) (h2 : w.cell? ⟨pd, 0, none⟩ = some (.pointer (some ⟨g, 0, none⟩))) :
    Calls Try.prog 44 #[.pointer (some ⟨pd, 0, none⟩), .pointer (some ⟨pn, 0, none⟩)] w (RetD0 w g v { d with bytes := d.bytes.take n, synced := n }) := by
  obtain ⟨A, c, rfl, hc⟩ := h.own.slice
  have H := hid h
  have k2 := h.c2
  have k3 := h.c3
  have kf := h.blk.frozen
  have m0 : (0 : Int) ≤ n := by omega
  have m1 : (n : Int) ≤ c := by omega
  have hne' : ¬ g = pn := fun e => hne e.symm
  have hne2' : ¬ g = pd := fun e => hne2 e.symm
  clear h
  go_enter Try.func44, Try.ntmps44
  go_wp2_with fail
  go_region
  go_end0
  refine ⟨.slice A n n, rfl, (H.out.first n hn).keep_no ((Fr.refl No _).drew), (((Fr.refl _ w).setCell (fun _ => Its.self g _) _).setCell (fun _ => Its.self g _) _).drew, ?_⟩
  intro k hk
  rcases A with _ | a
  · exact absurd hk Of_none
  · exact .inl (Of_some.2 (Of_some.1 hk))

set_option maxHeartbeats 1000000 in
theorem cut_c {w : World} {g : Nat} {v : Value} {d : DSt} (h : IsDisk w g v d) (n : Int) (r : DSt × Nat) (hr : cutD d n = r) :
    Calls Try.prog 17 #[.pointer (some ⟨g, 0, none⟩), .int .i64 n] w (RetD w g v r) := by
  have H := hid h
  have HR := hid hr
  clear h hr
  go_enter Try.func17, Try.ntmps17
  go_wp2_with fail
  have D2 := H.out.keep_no (((Fr.refl No w).alloc (.cells #[.pointer (some ⟨g, 0, none⟩)] 24)).alloc (.cells #[.int .i64 n] 3))
  have B1 := (Blk.new w 24 #[.pointer (some ⟨g, 0, none⟩)]).alloc (.cells #[.int .i64 n] 3)
  have B2 : Blk ((w.alloc (.cells #[.pointer (some ⟨g, 0, none⟩)] 24)).alloc (.cells #[.int .i64 n] 3)) (w.heap.size + 1) 3 #[.int .i64 n] := by
    have h := Blk.new (w.alloc (.cells #[.pointer (some ⟨g, 0, none⟩)] 24)) 3 #[.int .i64 n]
    rwa [show (w.alloc (.cells #[.pointer (some ⟨g, 0, none⟩)] 24)).heap.size = w.heap.size + 1 by simp] at h
  have hg := H.out.lt
  refine (operation_c D2 _ _ _ _ (if n < 0 ∨ (d.bytes.length : Int) < n then 2 else 0) (fun d => { d with bytes := d.bytes.take n.toNat, synced := n.toNat }) (fun _ => rfl) (fun _ => rfl)
    (cut1_c D2 n (w.heap.size + 1) w.heap.size (B2.cell 0) (B1.cell 0))
    (fun nq hmay _ _ => ?_)
    r HR.out).mono ?_
  · have hm : ¬ (n < 0 ∨ (d.bytes.length : Int) < n) := by
      intro hlt
      rw [if_pos hlt] at hmay
      exact absurd hmay (by decide)
    refine cut2_c (D2.drewN nq).armed n.toNat (by show n.toNat ≤ d.bytes.length; omega) (w.heap.size + 1) w.heap.size (by omega) (by omega) ?_ ?_
    · rw [show ((n.toNat : Nat) : Int) = n by omega]
      exact ((B2.drewN nq).far (by show w.heap.size + 1 ≠ g; omega) _).cell 0
    · exact ((B1.drewN nq).far (by show w.heap.size ≠ g; omega) _).cell 0
  rintro e w1 h1
  obtain ⟨v1, rfl, h2⟩ := h1.alloc.alloc
  have H2 := hid h2
  clear h1 h2
  go_wp2_with fail
  go_ret
  exact ⟨v1, rfl, H2.out⟩
end Go.Proofs.Ytfbhcapcnkcfdaa
