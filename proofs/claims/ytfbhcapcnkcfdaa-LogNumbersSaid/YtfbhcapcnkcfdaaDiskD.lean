import Derived.Test.YtfbhcapcnkcfdaaDiskC
import Derived.Deep.RegionLaw
import Derived.BigRegion
/-! The contracts of package disk: Append, Cut. -/
namespace Go.Proofs.Ytfbhcapcnkcfdaa
open Go.RowKit
set_option linter.unusedVariables false
set_option linter.unusedSimpArgs false

theorem IsDisk.append {w w4 : World} {g : Nat} {v v4 : Value} {d : DSt} {xs : List UInt8} (h : IsDisk w g v d) (F4 : Fr (Of v) w.drew w4) (O4 : OwnB 5 w4 v4 (d.bytes ++ xs)) (G4 : Grows w.drew (Of v) v4) (hf : (d.bytes.length : Int) + xs.length ≤ d.most) :
    IsDisk (w4.setCell ⟨g, 2, none⟩ v4) g v4 { d with bytes := d.bytes ++ xs } ∧ Fr (Its g v) w (w4.setCell ⟨g, 2, none⟩ v4) ∧ Grows w (Of v) v4 := by
  have hb := Blk.keep (Blk.drew h.blk) F4 h.ne
  have hn : ¬ Of v4 g := O4.ne_ hb (by decide)
  have hs := h.syn
  refine ⟨⟨hb.set_ 2 _, O4.keep (Fr.one _ _ _ _) (fun k hk e => hn (e ▸ hk)), h.most0, h.most1, by simp; omega, by simp; omega, h.arm0, h.arm1⟩, ?_, fun k hk => G4 k hk⟩
  exact ((((Fr.refl (Its g v) w).drew).trans F4 (fun k _ hk => .inr hk))).setCell (fun _ => Its.self g v) _

set_option maxHeartbeats 1000000 in
theorem append2_c {w : World} {g : Nat} {v : Value} {d : DSt} (h : IsDisk w g v d) (y : Value) (xs : List UInt8) (hy : RdB w y xs) (hyg : 0 < xs.length → ∀ k, Of y k → ¬ Its g v k) (hf : (d.bytes.length : Int) + xs.length ≤ d.most) (pb pd : Nat) (hpl : pd < w.heap.size) (hpv : ¬ Of v pd) (h1 : w.cell? ⟨pb, 0, none⟩ = some y) (h2 : w.cell? ⟨pd, 0, none⟩ = some (.pointer (some ⟨g, 0, none⟩))) :
    Calls Try.prog 48 #[.pointer (some ⟨pd, 0, none⟩), .pointer (some ⟨pb, 0, none⟩)] w (RetD0 w g v { d with bytes := d.bytes ++ xs }) := by
  have H := hid h
  have HY := hid hy
  have k2 := h.c2
  have kf := h.blk.frozen
  have HL := hid (show d.bytes.length + xs.length ≤ 140737488355328 by have := h.most1; omega)
  have HO := hid h.own
  clear h hy
  go_enter Try.func48, Try.ntmps48
  have HLT := hid H.out.lt
  go_wp2_with fail
  go_region_law ((first
    | (go_loud (refine step_appB _ (by rfl) (.tmp 6) (.tmp 7) _ (by rfl) 5 Try.underlying22 infoU8 _ d.bytes (by rfl) (HO.out.heap (by rfl)) _ _ (by rfl) (HY.out.heap (by rfl)) HL.out ?_); intro v4 w4 O4 F4 G4; obtain ⟨A4, c4, rfl, hc4⟩ := O4.out.slice; rw [List.length_append] at O4 G4 hc4; have k24 : w4.cell? ⟨g, 2, none⟩ = some v := (Blk.keep (Blk.drew H.out.blk) F4.out H.out.ne).cell 2; have kd4 : w4.cell? ⟨pd, 0, none⟩ = some (.pointer (some ⟨g, 0, none⟩)) := (F4.out.cell (show pd < w.drew.heap.size from hpl) hpv 0).trans h2; have kf4 := (Blk.keep (Blk.drew H.out.blk) F4.out H.out.ne).frozen)))
  all_goals
    have hr := H.out.append F4.out O4.out G4.out hf
    go_end0
    exact ⟨_, rfl, hr.1, hr.2.1, hr.2.2⟩

set_option maxHeartbeats 1000000 in
theorem append_c {w : World} {g : Nat} {v : Value} {d : DSt} (h : IsDisk w g v d) (y : Value) (xs : List UInt8) (hy : RdB w y xs) (hyg : 0 < xs.length → ∀ k, Of y k → ¬ Its g v k) (hyl : xs.length ≤ 140737488000000) (r : DSt × Nat) (hr : appendD d xs = r) :
    Calls Try.prog 22 #[.pointer (some ⟨g, 0, none⟩), y] w (RetD w g v r) := by
  obtain ⟨A, c, rfl, hc⟩ := hy.slice
  have H := hid h
  have HR := hid hr
  have HY := hid hy
  clear h hr hy
  go_enter Try.func22, Try.ntmps22
  go_wp2_with fail
  have D2 := H.out.keep_no (((Fr.refl No w).alloc (.cells #[.pointer (some ⟨g, 0, none⟩)] 24)).alloc (.cells #[.slice A xs.length c] 22))
  have Y2 := (HY.out.alloc (.cells #[.pointer (some ⟨g, 0, none⟩)] 24)).alloc (.cells #[.slice A xs.length c] 22)
  have B1 := (Blk.new w 24 #[.pointer (some ⟨g, 0, none⟩)]).alloc (.cells #[.slice A xs.length c] 22)
  have B2 : Blk ((w.alloc (.cells #[.pointer (some ⟨g, 0, none⟩)] 24)).alloc (.cells #[.slice A xs.length c] 22)) (w.heap.size + 1) 22 #[.slice A xs.length c] := by
    have h := Blk.new (w.alloc (.cells #[.pointer (some ⟨g, 0, none⟩)] 24)) 22 #[.slice A xs.length c]
    rwa [show (w.alloc (.cells #[.pointer (some ⟨g, 0, none⟩)] 24)).heap.size = w.heap.size + 1 by simp] at h
  have hg := H.out.lt
  refine (operation_c D2 _ _ _ _ (if d.most - d.bytes.length < xs.length then 5 else 0) (fun d => { d with bytes := d.bytes ++ xs }) (fun _ => rfl) (fun _ => rfl)
    (append1_c D2 _ xs Y2 (w.heap.size + 1) w.heap.size (B2.cell 0) (B1.cell 0))
    (fun nq hmay _ _ => append2_c (D2.drewN nq).armed _ xs ((Y2.drewN nq).keep_ (Fr.one _ _ _ _) (fun h0 k hk e => hyg h0 k hk (.inl e))) hyg ?_ (w.heap.size + 1) w.heap.size (by simp [World.setCell]; omega) (fun hk => absurd (H.out.own.lt _ hk) (by omega)) ?_ ?_)
    r HR.out).mono ?_
  · have hm : ¬ d.most - d.bytes.length < xs.length := by
      intro hlt
      rw [if_pos hlt] at hmay
      exact absurd hmay (by decide)
    show (d.bytes.length : Int) + xs.length ≤ d.most
    omega
  · exact ((B2.drewN nq).far (by show w.heap.size + 1 ≠ g; omega) _).cell 0
  · exact ((B1.drewN nq).far (by show w.heap.size ≠ g; omega) _).cell 0
  rintro e w1 h1
  obtain ⟨v1, rfl, h2⟩ := h1.alloc.alloc
  have H2 := hid h2
  clear h1 h2
  go_wp2_with fail
  go_ret
  exact ⟨v1, rfl, H2.out⟩
end Go.Proofs.Ytfbhcapcnkcfdaa
