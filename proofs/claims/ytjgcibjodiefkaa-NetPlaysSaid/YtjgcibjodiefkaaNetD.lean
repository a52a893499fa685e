import Derived.Test.YtjgcibjodiefkaaNetC
/-! The contracts of package net: Forget. -/
namespace Go.Proofs.Ytjgcibjodiefkaa
open Go.RowKit
set_option linter.unusedVariables false
set_option linter.unusedSimpArgs false

set_option maxRecDepth 100000 in
set_option maxHeartbeats 1000000 in
theorem index_nil (w : World) (pb : Nat) : Calls Try.prog 37 #[.slice none 0 0, .func (.func 34) #[] #[.pointer (some ⟨pb, 0, none⟩)]] w fun e w' => e = .returned (.int .i64 (-1)) ∧ w' = w := by
  go_enter Try.func37, Try.ntmps37
  go_wp2_with fail
  go_loopg [8] 0 (fun q v8 w' => v8 = .int .i64 0 ∧ w' = w)
  case atStart => exact ⟨rfl, rfl⟩
  case round =>
    obtain ⟨rfl, rfl⟩ := hrel
    go_wp2_with fail
    go_ret
    exact ⟨rfl, rfl⟩
set_option maxRecDepth 100000 in
set_option maxHeartbeats 1000000 in
theorem deleteFunc_nil (w : World) (pb : Nat) : Calls Try.prog 33 #[.slice none 0 0, .func (.func 34) #[] #[.pointer (some ⟨pb, 0, none⟩)]] w fun e w' => e = .returned (.slice none 0 0) ∧ w' = w := by
  go_enter Try.func33, Try.ntmps33
  go_wp2_with (first | (go_at_call 37; refine (index_nil _ pb).mono ?_; rintro e w1 ⟨rfl, rfl⟩))
  go_ret
  exact ⟨rfl, rfl⟩

/-- what is left behind Forget; how many went -/
def forgetL (L : List G3) (node : Int) : List G3 := L.filter (fun p => p.2.1 != node)
theorem forget_map (l : List Gr) (node : Int) : (left l node).map Gr.abs = forgetL (l.map Gr.abs) node := by
  unfold left forgetL
  rw [List.filter_map]
  rfl
def RetForget (w : World) (g : Nat) (F : Nat → Prop) (nodes : Int) (L : List G3) (n : Int) : Ending → World → Prop := fun e w' => e = .returned (.int .i64 n) ∧ IsN w' g F nodes L ∧ Fr F w w'

set_option maxRecDepth 100000 in
set_option maxHeartbeats 1000000 in
theorem forget_c {w : World} {g : Nat} {F : Nat → Prop} {nodes : Int} {L : List G3} (h : IsN w g F nodes L) (node : Int) (L' : List G3) (hL : forgetL L node = L') :
    Calls Try.prog 15 #[.pointer (some ⟨g, 0, none⟩), .int .i64 node] w (RetForget w g F nodes L' ((L.length : Int) - L'.length)) := by
  subst hL
  have hlen := h.len
  have hle : (forgetL L node).length ≤ L.length := List.length_filter_le _ _
  have hw : IntKind.i64.wrap ((L.length : Int) - (forgetL L node).length) = (L.length : Int) - (forgetL L node).length := by rw [IntKind.wrap_i64]; omega
  have h0 := h.keep_no ((Fr.refl No w).alloc (.cells #[.int .i64 node] 3))
  have HW := hid hw
  have HLE := hid hle
  have H := hid h
  obtain ⟨A, l, h1, hl, hF⟩ := h0.ex
  have HI := hid h1
  have HFF := hid hF
  have HLL := hid hl
  have k1 := h1.c1
  have HQQ := hid (show l.length = L.length by rw [← hl]; simp)
  have gf := h1.blk.frozen
  have BX := hid (Blk.new w 3 #[.int .i64 node])
  have kb := BX.out.cell 0
  rcases h1.row.2 with ⟨rfl, hz⟩ | ⟨b, c, cur, rfl, hg, hnc, hcm, _, _⟩
  · have hz2 : l = [] := List.eq_nil_of_length_eq_zero hz
    subst hz2
    have hL0 : L = [] := hl.symm
    subst hL0
    clear h h0 h1 hF hl hz hw hle hlen
    go_enter Try.func15, Try.ntmps15
    go_wp2_with (first
      | (go_at_call 30; refine (none_c HI.out).mono ?_; rintro e w1 ⟨rfl, rfl⟩)
      | (go_at_call 33; refine (deleteFunc_nil _ _).mono ?_; rintro e w1 ⟨rfl, rfl⟩))
    go_ret
    refine ⟨rfl, ?_, ?_⟩
    · refine IsNet.isN (A := .slice none 0 0) (l := []) ⟨HI.out.blk.set_ 1 _, Own.nil _ _ _, by simp, HI.out.n1, HI.out.n2, by simp, by simp⟩ rfl HFF.out ?_
      intro k hk
      have := H.out.lt k hk
      simp [World.setCell]
      omega
    · exact Fr.setCell ((Fr.refl F w).alloc _) (fun _ => HFF.out g (.inl rfl)) _
  · have hs : ∀ p ∈ l, Isl p := fun p hp => by
      obtain ⟨A', c', e, _⟩ := (h1.data p hp).slice
      exact ⟨_, _, _, e⟩
    have HS := hid hs
    have h4096 := h1.len
    have hbF := hF b (.inr (.inl (by simp [Of, Value.ownBlock])))
    have hgF := hF g (.inl rfl)
    have hb0 := h.lt b hbF
    have hg0 := h.lt g hgF
    have hbg : b ≠ g := fun e => h1.row.ne_ h1.blk (by decide) (by subst e; simp [Of, Value.ownBlock])
    have HBF := hid hbF
    have HGF := hid hgF
    have HBG := hid hbg
    have n4 : ¬ g = w.heap.size := by omega
    rw [← HQQ.out] at HLE HW ⊢
    have hw' : IntKind.i64.wrap ((l.length : Int) - (left l node).length) = (l.length : Int) - (left l node).length := by have := HW.out; rw [← HLL.out, ← forget_map l node, List.length_map] at this; exact this
    clear h h0 h1 hF hl hw hle hlen hs hg hbF hgF hbg
    go_enter Try.func15, Try.ntmps15
    go_wp2_with (first
      | (go_at_call 30; refine (none_c HI.out).mono ?_; rintro e w1 ⟨rfl, rfl⟩))
    refine (deleteFunc_c HI.out.row rfl h4096 HS.out w.heap.size node (BX.out.cell 0) (by simp) (by omega)).mono ?_
    rintro e w3 ⟨rfl, O3, F3⟩
    have hll2 : (left l node).length ≤ l.length := List.length_filter_le _ _
    have hsub : ∀ p ∈ left l node, p ∈ l := fun p hp => (List.mem_filter.1 hp).1
    have N3 := HI.out.less HBG.out F3 hll2 hsub O3
    have HN3 := hid N3
    have HF3 := hid F3
    have HSUB := hid hsub
    have B3 : Blk w3 g 53 _ := HI.out.blk.keep F3 (fun e => HBG.out e.symm)
    have g1 := B3.cell 1
    have gf3 := B3.frozen
    clear O3 F3 N3 hll2 hsub k1 kb gf B3
    go_wp2_with fail
    go_ret
    have e1 : (forgetL L node).length = (left l node).length := by rw [← HLL.out, ← forget_map, List.length_map]
    refine ⟨by rw [e1]; rfl, ?_, ?_⟩
    · refine HN3.out.isN (by rw [forget_map, HLL.out]) ?_ ?_
      · rintro k (rfl | hk | ⟨p, hp, hk⟩)
        · exact HGF.out
        · exact HFF.out k (.inr (.inl (by simpa [Of, Value.ownBlock] using hk)))
        · exact HFF.out k (.inr (.inr ⟨p, HSUB.out p hp, hk⟩))
      · intro k hk
        have h1 := H.out.lt k hk
        have h3 := HF3.out.size
        simp [World.setCell] at h3 ⊢
        omega
    · refine Fr.setCell (((Fr.refl F w).alloc _).trans HF3.out ?_) (fun _ => HGF.out) _
      rintro k hk rfl
      exact HBF.out
end Go.Proofs.Ytjgcibjodiefkaa
