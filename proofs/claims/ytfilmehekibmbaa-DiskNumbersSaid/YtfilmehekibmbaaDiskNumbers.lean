import Derived.Test.YtfilmehekibmbaaDiskF
/-! DiskNumbers: the fixed examples come out. -/
namespace Go.Proofs.Ytfilmehekibmbaa
open Go.RowKit
set_option linter.unusedVariables false
set_option linter.unusedSimpArgs false

theorem IsDisk.far {w : World} {g : Nat} {v : Value} {d : DSt} (h : IsDisk w g v d) {b : Nat} (hb : ¬ Its g v b) (i : Nat) (u : Value) : IsDisk (w.setCell ⟨b, i, none⟩ u) g v d :=
  h.keep (Fr.one w b i u) (fun e => hb (.inl e.symm)) (fun k hk e => hb (.inr (e ▸ hk)))
theorem St.store {w0 w : World} {g : Nat} {v : Value} {d : DSt} (h : St w0 w g v d) {b : Nat} (hb : w0.heap.size ≤ b) (hn : ¬ Its g v b) (i : Nat) (u : Value) : St w0 (w.setCell ⟨b, i, none⟩ u) g v d :=
  ⟨h.disk.far hn i u, h.fr.setCell (p := ⟨b, i, none⟩) (fun hlt => absurd hlt (by show ¬ b < w0.heap.size; omega)) u, h.gnew, h.vnew⟩

set_option maxRecDepth 100000 in
set_option maxHeartbeats 2000000 in
theorem diskNumbers_c (w : World) : Calls Try.prog 3 #[] w (RetT w) := by
  have kc := run_convert_const (P := Try.prog) 26 5 Try.underlying26 Try.underlying5
  go_enter Try.func3, Try.ntmps3
  go_wp2_with fail
  refine (new_bad (-1) (by omega) _).mono ?_
  rintro e wx ⟨rfl, rfl⟩
  go_wp2_with fail
  refine (new_bad 67108865 (by omega) _).mono ?_
  rintro e wx ⟨rfl, rfl⟩
  go_wp2_with fail
  refine (new_c 67108864 (by omega) (by omega) _).mono ?_
  rintro e w0 ⟨g0, v0, rfl, _, F, _, _⟩
  have F0 := hid F
  clear F
  go_wp2_with fail
  refine (new_c 3 (by omega) (by omega) _).mono ?_
  rintro e w1 ⟨g, v1, rfl, I, F, hgn, hvn⟩
  have S1 := hid (St.new I (F0.out.fresh_no F) (Nat.le_trans F0.out.size hgn) hvn)
  clear I F hgn hvn
  go_wp2_with fail
  refine (append_c (S1.out.disk.keep_no ((Fr.refl No _).alloc _)) _ [97, 98, 99] (RdB.lit_ _ _ _ _ _ rfl rfl _ (by first | rfl | simp)) (its_new S1.out.disk) (by simp) (⟨3, [97, 98, 99], 0, -1, false⟩, 0) rfl).mono ?_
  rintro e w2 ⟨v2, rfl, I, F, G⟩
  have hnI : ¬ Its g v1 w1.heap.size := its_new S1.out.disk (n := 1) (a := 1) (b := 1) (by omega) _ (Of_some.2 rfl)
  have kb0 : w2.cell? ⟨w1.heap.size, 0, none⟩ = some (.int .u8 97) := (F.cell (by simp) hnI 0).trans ((cell_of_row _ _ 0 _ _ _ (heap_alloc_new w1 _)).trans rfl)
  have kbf : w2.frozen? ⟨w1.heap.size, 0, none⟩ = false := (F.frozen (by simp) hnI 0).trans (by unfold World.frozen?; simp only [heap_alloc_new]; rfl)
  have hin : ¬ Its g v2 w1.heap.size := by
    rintro (e | h)
    · have := S1.out.disk.lt; omega
    · rcases G _ h with h1 | h1
      · exact absurd (S1.out.disk.own.lt _ h1) (by omega)
      · simp at h1; omega
  have S2 := hid ((S1.out.keep ((Fr.refl No _).alloc _)).to I F G)
  have HIN := hid (⟨hin, S1.out.fr.size⟩ : ¬ Its g v2 w1.heap.size ∧ wx.heap.size ≤ w1.heap.size)
  clear I F G hnI hin
  go_wp2_with fail
  have S3 := hid (S2.out.store HIN.out.2 HIN.out.1 0 (.int .u8 120))
  clear kb0 kbf HIN
  refine (read_c S3.out.disk ([97, 98, 99], 0) rfl).mono ?_
  rintro e w4 ⟨r4, rfl, A, B, C⟩
  obtain ⟨go, cap, rfl, hcap, hgo⟩ := A.form (by simp)
  have kc1 : w4.cell? ⟨go, 1, none⟩ = some (.int .u8 98) := A.cell (i := 1) (b := 98) rfl
  have kcf := A.frozen rfl
  have hgo2 := (C go (Of_some.2 rfl)).resolve_left (not_no _)
  have S4 := hid (S3.out.keep B)
  have HGO := hid (show ¬ Its g v2 go from fun h => absurd (S3.out.disk.its_lt h) (by omega))
  have HG2 := hid (show wx.heap.size ≤ go from Nat.le_trans S3.out.fr.size hgo2)
  clear A B C hgo2
  go_wp2_with fail
  have S5 := hid (S4.out.store HG2.out HGO.out 1 (.int .u8 120))
  clear kc1 kcf HGO HG2 hgo
  refine (reads_c S5.out.disk [97, 98, 99] rfl rfl).mono ?_
  rintro e w6 ⟨rfl, B⟩
  have S6 := hid (S5.out.keep B)
  clear B
  go_wp2_with fail
  refine (append_c (S6.out.disk.keep_no ((Fr.refl No _).alloc _)) _ [100] ((RdB.lit_ _ _ _ _ _ rfl rfl _ (by first | rfl | simp))) (its_new S6.out.disk) (by simp) (⟨3, [97, 98, 99], 0, -1, false⟩, 5) rfl).mono ?_
  rintro e w7 hr
  obtain ⟨v7, rfl, S'⟩ := S6.out.step ((Fr.refl No _).alloc _) hr
  have S7 := hid S'
  clear S' hr
  go_wp2_with fail
  refine (append_c (S7.out.disk.keep_no (Fr.refl No _)) _ [] (RdB.nil _) (fun h0 => absurd h0 (by simp)) (by simp) (⟨3, [97, 98, 99], 0, -1, false⟩, 0) rfl).mono ?_
  rintro e w8 hr
  obtain ⟨v8, rfl, S'⟩ := S7.out.step (Fr.refl No _) hr
  have S8 := hid S'
  clear S' hr
  go_wp2_with fail
  refine (cut_c S8.out.disk 4 (⟨3, [97, 98, 99], 0, -1, false⟩, 2) rfl).mono ?_
  rintro e w9 hr
  obtain ⟨v9, rfl, S'⟩ := S8.out.step (Fr.refl No _) hr
  have S9 := hid S'
  clear S' hr
  go_wp2_with fail
  refine (cut_c S9.out.disk (-1) (⟨3, [97, 98, 99], 0, -1, false⟩, 2) rfl).mono ?_
  rintro e w10 hr
  obtain ⟨v10, rfl, S'⟩ := S9.out.step (Fr.refl No _) hr
  have S10 := hid S'
  clear S' hr
  go_wp2_with fail
  refine (cut_c S10.out.disk 2 (⟨3, [97, 98], 2, -1, false⟩, 0) rfl).mono ?_
  rintro e w11 hr
  obtain ⟨v11, rfl, S'⟩ := S10.out.step (Fr.refl No _) hr
  have S11 := hid S'
  clear S' hr
  go_wp2_with fail
  refine (synced_c S11.out.disk).mono ?_
  rintro e wx ⟨rfl, rfl⟩
  go_wp2_with fail
  refine (reads_c S11.out.disk [97, 98] rfl rfl).mono ?_
  rintro e w12 ⟨rfl, B⟩
  have S12 := hid (S11.out.keep B)
  clear B
  go_wp2_with fail
  refine (arm_c S12.out.disk 0 (by omega) ⟨3, [97, 98], 2, 0, false⟩ rfl).mono ?_
  rintro e w13 hr
  obtain ⟨v13, rfl, S'⟩ := S12.out.step0 (Fr.refl No _) hr
  have S13 := hid S'
  clear S' hr
  go_wp2_with fail
  refine (append_c (S13.out.disk.keep_no ((Fr.refl No _).alloc _)) _ [122, 122, 122, 122, 122] ((RdB.lit_ _ _ _ _ _ rfl rfl _ (by first | rfl | simp))) (its_new S13.out.disk) (by simp) (⟨3, [97, 98], 2, 0, false⟩, 5) rfl).mono ?_
  rintro e w14 hr
  obtain ⟨v14, rfl, S'⟩ := S13.out.step ((Fr.refl No _).alloc _) hr
  have S14 := hid S'
  clear S' hr
  go_wp2_with fail
  refine (sync_c S14.out.disk (⟨3, [97, 98], 2, -1, true⟩, 15) rfl).mono ?_
  rintro e w15 hr
  obtain ⟨v15, rfl, S'⟩ := S14.out.step (Fr.refl No _) hr
  have S15 := hid S'
  clear S' hr
  go_wp2_with fail
  refine (arm_c S15.out.disk 5 (by omega) ⟨3, [97, 98], 2, -1, true⟩ rfl).mono ?_
  rintro e w16 hr
  obtain ⟨v16, rfl, S'⟩ := S15.out.step0 (Fr.refl No _) hr
  have S16 := hid S'
  clear S' hr
  go_wp2_with fail
  refine (sync_c S16.out.disk (⟨3, [97, 98], 2, -1, true⟩, 15) rfl).mono ?_
  rintro e w17 hr
  obtain ⟨v17, rfl, S'⟩ := S16.out.step (Fr.refl No _) hr
  have S17 := hid S'
  clear S' hr
  go_wp2_with fail
  refine (crash_c S17.out.disk (-3) ⟨3, [97, 98], 2, -1, false⟩ rfl).mono ?_
  rintro e w18 hr
  obtain ⟨v18, rfl, S'⟩ := S17.out.step0 (Fr.refl No _) hr
  have S18 := hid S'
  clear S' hr
  go_wp2_with fail
  refine (arm_c S18.out.disk (-7) (by omega) ⟨3, [97, 98], 2, 0, false⟩ rfl).mono ?_
  rintro e w19 hr
  obtain ⟨v19, rfl, S'⟩ := S18.out.step0 (Fr.refl No _) hr
  have S19 := hid S'
  clear S' hr
  go_wp2_with fail
  refine (cut_c S19.out.disk 9 (⟨3, [97, 98], 2, 0, false⟩, 2) rfl).mono ?_
  rintro e w20 hr
  obtain ⟨v20, rfl, S'⟩ := S19.out.step (Fr.refl No _) hr
  have S20 := hid S'
  clear S' hr
  go_wp2_with fail
  refine (cut_c S20.out.disk 0 (⟨3, [97, 98], 2, -1, true⟩, 15) rfl).mono ?_
  rintro e w21 hr
  obtain ⟨v21, rfl, S'⟩ := S20.out.step (Fr.refl No _) hr
  have S21 := hid S'
  clear S' hr
  go_wp2_with fail
  refine (crash_c S21.out.disk 9 ⟨3, [97, 98], 2, -1, false⟩ rfl).mono ?_
  rintro e w22 hr
  obtain ⟨v22, rfl, S'⟩ := S21.out.step0 (Fr.refl No _) hr
  have S22 := hid S'
  clear S' hr
  go_wp2_with fail
  refine (reads_c S22.out.disk [97, 98] rfl rfl).mono ?_
  rintro e w23 ⟨rfl, B⟩
  have S23 := hid (S22.out.keep B)
  clear B
  go_wp2_with fail
  refine (arm_c S23.out.disk 2 (by omega) ⟨3, [97, 98], 2, 2, false⟩ rfl).mono ?_
  rintro e w24 hr
  obtain ⟨v24, rfl, S'⟩ := S23.out.step0 (Fr.refl No _) hr
  have S24 := hid S'
  clear S' hr
  go_wp2_with fail
  refine (sync_c S24.out.disk (⟨3, [97, 98], 2, 1, false⟩, 0) rfl).mono ?_
  rintro e w25 hr
  obtain ⟨v25, rfl, S'⟩ := S24.out.step (Fr.refl No _) hr
  have S25 := hid S'
  clear S' hr
  go_wp2_with fail
  refine (sync_c S25.out.disk (⟨3, [97, 98], 2, 0, false⟩, 0) rfl).mono ?_
  rintro e w26 hr
  obtain ⟨v26, rfl, S'⟩ := S25.out.step (Fr.refl No _) hr
  have S26 := hid S'
  clear S' hr
  go_wp2_with fail
  refine (sync_c S26.out.disk (⟨3, [97, 98], 2, -1, true⟩, 15) rfl).mono ?_
  rintro e w27 hr
  obtain ⟨v27, rfl, S'⟩ := S26.out.step (Fr.refl No _) hr
  have S27 := hid S'
  clear S' hr
  go_wp2_with fail
  refine (awake_c _).mono ?_
  rintro e wz ⟨rfl, B⟩
  have SZ := hid (S27.out.keep B)
  clear B
  go_wp2_with fail
  go_ret
  exact ⟨rfl, SZ.out.fr⟩
end Go.Proofs.Ytfilmehekibmbaa
