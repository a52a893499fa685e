import Derived.Test.YtjgcibjodiefkaaNetV
import Derived.Test.YtjgcibjodiefkaaNetTrue
import Derived.Deep.RegionHeld3
import Derived.Deep.DeepCutAuto
import Derived.Deep.CutBlock
/-! NetPlays: through any script every answer, and what is on its way, is as the document defines. -/
namespace Go.Proofs.Ytjgcibjodiefkaa
open Go.RowKit
set_option linter.unusedVariables false
set_option linter.unusedSimpArgs false

theorem Fly.refL {w0 w : World} {F : Nat → Prop} {v : Value} {m : List Gr} (h : Fly w0 w F v m) : RefL w v m := ⟨h.own, fun p hp => (h.data p hp).1⟩
theorem Fly.to {w0 w w' : World} {F : Nat → Prop} {v v' : Value} {m m' : List Gr} {L' : List G3} (h : Fly w0 w F v m) (hw0 : w0.heap.size ≤ w.heap.size) (hlt : ∀ k, F k → k < w.heap.size) (hr : RefTo w w' v m v' m' L') : Fly w0 w' F v' m' := by
  refine ⟨hr.ref.own, fun k hk => ?_, fun k hk hF => ?_, fun p hp => ⟨hr.ref.data p hp, fun k hk => ?_⟩⟩
  · rcases hr.row k hk with h1 | h1
    · exact h.new k h1
    · exact Nat.le_trans hw0 h1
  · rcases hr.row k hk with h1 | h1
    · exact h.sep k h1 hF
    · have := hlt _ hF; omega
  · rcases hr.dat p hp with h1 | h1
    · exact (h.data p h1).2 k hk
    · exact ⟨Nat.le_trans hw0 (h1 k hk), fun hF => by have := hlt _ hF; have := h1 k hk; omega⟩
/-- two datagrams that stand in boxes are the same one -/
def Twin (w : World) (b1 b2 : Nat) : Prop := ∃ a z A n c A' c' bs, Blk w b1 29 #[.int .i64 a, .int .i64 z, .slice A n c] ∧ Blk w b2 29 #[.int .i64 a, .int .i64 z, .slice A' n c'] ∧ n = List.length bs ∧ RdB w (.slice A n c) bs ∧ RdB w (.slice A' n c') bs
theorem Twin.keep {w w' : World} {b1 b2 : Nat} (h : Twin w b1 b2) (hf : Fr No w w') : Twin w' b1 b2 := by
  obtain ⟨a, z, A, n, c, A', c', bs, h1, h2, h3, h4, h5⟩ := h
  exact ⟨a, z, A, n, c, A', c', bs, h1.keep hf (not_no _), h2.keep hf (not_no _), h3, h4.keep hf (fun k _ => not_no k), h5.keep hf (fun k _ => not_no k)⟩

theorem takeL_len (L : List G3) (i : Int) : (takeL L i).length ≤ L.length := by
  unfold takeL
  split
  · rw [List.length_eraseIdx]
    split <;> omega
  · exact Nat.le_refl _
theorem plays_store {w w3 w4 : World} {g gb : Nat} {F : Nat → Prop} {nodes : Int} {v v' : Value} {m m' : List Gr} {L' : List G3} (S3 : StN w w3 g F nodes L') (L3 : Fly w w3 F v m) (B3 : Blk w3 gb 40 #[.int .i64 nodes, v]) (T : RefTo w3 w4 v m v' m' L') (hgb : ¬ F gb) (hg0 : w.heap.size ≤ gb) :
    StN w ((w4.setCell ⟨gb, 0, none⟩ (.int .i64 nodes)).setCell ⟨gb, 1, none⟩ v') g F nodes (m'.map Gr.abs) ∧ Fly w ((w4.setCell ⟨gb, 0, none⟩ (.int .i64 nodes)).setCell ⟨gb, 1, none⟩ v') F v' m' ∧
      Blk ((w4.setCell ⟨gb, 0, none⟩ (.int .i64 nodes)).setCell ⟨gb, 1, none⟩ v') gb 40 #[.int .i64 nodes, v'] ∧ Fr (fun k => k = gb) w4 ((w4.setCell ⟨gb, 0, none⟩ (.int .i64 nodes)).setCell ⟨gb, 1, none⟩ v') := by
  have FZ : Fr (fun k => k = gb) w4 ((w4.setCell ⟨gb, 0, none⟩ (.int .i64 nodes)).setCell ⟨gb, 1, none⟩ v') := Fr.setCell (S := fun k => k = gb) (Fr.setCell (S := fun k => k = gb) (Fr.refl _ w4) (fun _ => rfl) _) (fun _ => rfl) _
  have B4 := B3.keep T.fr (not_no _)
  have L4 := L3.to S3.fr.size S3.n.lt T
  have S4 := S3.keep T.fr
  refine ⟨by rw [T.abs]; exact S4.keepS FZ (fun k hk e => hgb (e ▸ hk)) (fun k e => by rw [e]; exact hg0), ⟨L4.own.keep FZ (fun k hk e => L4.own.ne_ B4 (by decide) (e ▸ hk)), L4.new, L4.sep, fun p hp => ⟨(L4.data p hp).1.keep FZ (fun k hk e => (L4.data p hp).1.ne_ B4 (by decide) (e ▸ hk)), (L4.data p hp).2⟩⟩, ?_, FZ⟩
  have h := (B4.set_ 0 (.int .i64 nodes)).set_ 1 v'
  simpa using h

set_option maxRecDepth 100000 in
set_option maxHeartbeats 8000000 in
theorem netPlays_c (nodes : Int) (y : Value) (os : List OpE) (w : World) (hy : RdE w y os) :
    Calls Try.prog 4 #[.int .i64 nodes, y] w (RetT w) := by
  obtain ⟨A1, c1, rfl, q1, _⟩ := hy.1.slice_
  have HY := hid hy
  clear hy
  by_cases hn : 1 ≤ nodes ∧ nodes ≤ 16
  · obtain ⟨hn1, hn2⟩ := hn
    go_enter Try.func4, Try.ntmps4
    go_wp2_with fail
    refine (new_c nodes hn1 hn2 _).mono ?_
    rintro e w1 ⟨g, rfl, I, F, hg⟩
    have S1 := hid (StN.start I F hg)
    clear I F hg
    go_wp2_with fail
    refine (rnew_c nodes hn1 hn2 _).mono ?_
    rintro e w2 ⟨rfl, F2⟩
    have hF3 := F2.alloc (.cells #[.int .i64 nodes, .slice none 0 0] 40)
    have S3 := hid (S1.out.keep hF3)
    have D3 := hid (Blk.new w2 40 #[.int .i64 nodes, .slice none 0 0])
    have N3 := hid (show ¬ (w2.heap.size = g) ∧ w.heap.size ≤ w2.heap.size from ⟨fun e => by have := S1.out.n.lt g rfl; have := F2.size; omega, Nat.le_trans S1.out.fr.size F2.size⟩)
    clear F2 hF3 S1
    unfold refV
    go_wp2_with fail
    go_loopg [9] 80 (fun q v9 w' => ∃ (i : Nat) (F : Nat → Prop) (v : Value) (m : List Gr), v9 = .int .i64 i ∧ i ≤ 80 ∧ q = 80 - i ∧ Hid (m.length ≤ i) ∧ Hid (StN w w' g F nodes (m.map Gr.abs)) ∧ Hid (Fly w w' F v m) ∧ Hid (Blk w' w2.heap.size 40 #[.int .i64 nodes, v]) ∧ Hid (¬ F w2.heap.size))
    case atStart => exact ⟨0, _, .slice none 0 0, [], rfl, by omega, rfl, by simp [Hid], S3, ⟨Own.nil _ _ _, fun k hk => absurd hk Of_none, fun k hk => absurd hk Of_none, by simp⟩, D3, N3.out.1⟩
    case round =>
      clear S3 D3
      obtain ⟨i, F, v, m, rfl, hi, hq, HM, HS, HL, HB, HNF⟩ := hrel
      have HQ := hid hq
      clear hq
      obtain ⟨A5, c5, rfl, hc5, hm5⟩ := HL.out.own.slice
      by_cases d1 : i < os.length ∧ i < 80
      · obtain ⟨d1, d2⟩ := d1
        have d3 : (i : Int) < os.length := by omega
        have d4 : (i : Int) < 80 := by omega
        obtain ⟨b, off, kind, a, z, ix, A', c', ys, rfl, hz, k0, k1, k2, k3, k4, hok⟩ := (HY.out.keep HS.out.fr).at_ d1
        obtain ⟨hin, b0, b1, b2, b3⟩ := hok
        have HIN0 := hid (HY.out.2 _ (List.mem_of_getElem? hz)).1
        have hm80 := HM.out
        by_cases hc200 : ys.length ≤ 200
        · have c6 : (ys.length : Int) ≤ 200 := by omega
          clear hin b0 b1 b2 b3 hz
          go_upto_block 2 with fail
          generalize hW : ((wr.alloc (.cells #[.int .i64 kind, .int .i64 a, .int .i64 z, .int .i64 ix, .slice A' ys.length c'] 44)).alloc (.cells #[.int .i64 0, .int .i64 0, .slice none 0 0] 29)).alloc (.cells #[.int .i64 0, .int .i64 0, .slice none 0 0] 29) = W
          have FW : Fr No wr W := by rw [← hW]; exact (((Fr.refl No wr).alloc _).alloc _).alloc _
          have D10 := hid (show Blk W wr.heap.size 44 #[.int .i64 kind, .int .i64 a, .int .i64 z, .int .i64 ix, .slice A' ys.length c'] from by rw [← hW]; exact ((Blk.new wr _ _).alloc _).alloc _)
          have D13 := hid (show Blk W (wr.heap.size + 1) 29 #[.int .i64 0, .int .i64 0, .slice none 0 0] from by rw [← hW]; exact (Blk.new_ _ _ _ _ (by simp)).alloc _)
          have D14 := hid (show Blk W (wr.heap.size + 1 + 1) 29 #[.int .i64 0, .int .i64 0, .slice none 0 0] from by rw [← hW]; exact Blk.new_ _ _ _ _ (by simp))
          have S0 := hid (HS.out.keep FW)
          have L0 := hid (HL.out.keep FW)
          have B0 := hid (HB.out.keep FW (not_no _))
          have NF := hid (show ∀ k, wr.heap.size ≤ k → ¬ F k from fun k h1 h2 => by have := HS.out.n.lt _ h2; omega)
          have HG7 := hid (show w2.heap.size < wr.heap.size from HB.out.lt)
          have GEN := hid (show ∀ k, wr.heap.size ≤ k → w.heap.size ≤ k from fun k h1 => Nat.le_trans HS.out.fr.size h1)
          have HNW := hid N3.out.2
          have ROWLT := hid (show ∀ k, Of (.slice A5 m.length c5) k → k < wr.heap.size from HL.out.own.lt)
          clear hW FW HS HL HB k0 k1 k2 k3 k4
          go_cut [11, 12, 15, 16, 17, 18] (fun s11 s12 s15 s16 s17 s18 wq => ∃ (e n : Int) (o : Bool) (F2 : Nat → Prop) (v2 : Value) (m2 : List Gr), s11 = .int .i64 e ∧ s12 = .int .i64 e ∧ s15 = .bool o ∧ s16 = .bool o ∧ s17 = .int .i64 n ∧ s18 = .int .i64 n ∧ Hid (Twin wq (wr.heap.size + 1) (wr.heap.size + 1 + 1)) ∧ Hid (m2.length ≤ i + 1) ∧ Hid (StN w wq g F2 nodes (m2.map Gr.abs)) ∧ Hid (Fly w wq F2 v2 m2) ∧ Hid (Blk wq w2.heap.size 40 #[.int .i64 nodes, v2]) ∧ Hid (¬ F2 w2.heap.size))
          case first =>
            have s68 : True := trivial
            obtain ⟨a0, a1, a2, a3, a4, af⟩ := D10.out.fives
            have hm4096 : m.length ≤ 4096 := by omega
            have TW0 := hid (show ∀ w', Fr (fun k => k < wr.heap.size ∨ wr.heap.size + 1 + 1 < k) W w' → Twin w' (wr.heap.size + 1) (wr.heap.size + 1 + 1) from fun w' hf => ⟨0, 0, none, 0, 0, none, 0, [], D13.out.keep hf (by omega), D14.out.keep hf (by omega), rfl, RdB.nil _, RdB.nil _⟩)
            by_cases ck7 : kind = 1 ∨ kind = 2 ∨ kind = 3
            · obtain ⟨⟨r1, r2⟩, hr⟩ : ∃ r, sendL nodes (m.map Gr.abs) a z ys = r := ⟨_, rfl⟩
              have HR := hid hr
              have HRL := hid (show r1.length ≤ m.length + 1 from by
                have : r1 = (sendL nodes (m.map Gr.abs) a z ys).1 := by rw [hr]
                rw [this]; unfold sendL; split
                · simp
                · split
                  · simp
                  · split <;> simp)
              clear hr
              rcases ck7 with rfl | rfl | rfl
              all_goals
                as_aux_lemma =>
                  go_wp2_with fail
                  refine (send_c S0.out.n a z _ ys (HIN0.out.1.keep S0.out.fr (fun k _ => not_no k)) (by omega) _ HR.out).mono ?_
                  intro e w3 hr
                  obtain ⟨F3, rfl, S', hF, hG⟩ := S0.out.send' (Fr.refl No _) hr
                  have S3 := hid (show StN w w3 g F3 nodes r1 from S')
                  clear S' hr

                  have L3 := hid (L0.out.turn hF hG)
                  have B3 := hid (B0.out.keep hF HNF.out)
                  have D103 := hid (D10.out.keep hF (NF.out _ (Nat.le_refl _)))
                  have N3' := hid (show ¬ F3 w2.heap.size from fun h => by
                    rcases hG _ h with h | h
                    · exact HNF.out h
                    · have := S0.out.fr.size; have := HG7.out; have h9 := D10.out.lt; omega)
                  have FH := hid (show Fr (fun k => k < wr.heap.size ∨ wr.heap.size + 1 + 1 < k) W w3 from hF.mono (fun k _ h => by
                    rcases Nat.lt_or_ge k wr.heap.size with h1 | h1
                    · exact .inl h1
                    · exact absurd h (NF.out _ h1)))
                  clear hF hG S0 L0 B0 a0 a1 a2 a3 a4 af
                  obtain ⟨a0, a1, a2, a3, a4, af⟩ := D103.out.fives
                  obtain ⟨c0, c1', cf⟩ := B3.out.two

                  go_wp2_with fail
                  refine (rsend_c L3.out.refL hm4096 nodes a z _ ys (HIN0.out.1.keep S3.out.fr (fun k _ => not_no k)) (by omega) _ HR.out).mono ?_

                  rintro e w4 ⟨v4, m4, rfl, T⟩
                  obtain ⟨A4, c4, rfl, hc4, hm4'⟩ := T.ref.own.slice
                  have hst := hid (plays_store S3.out L3.out B3.out T N3'.out HNW.out)
                  have hml : m4.length ≤ m.length + 1 := by
                    have h2 : m4.length = r1.length := by have h3 := congrArg List.length T.abs; rw [List.length_map] at h3; exact h3
                    have h1 := HRL.out
                    omega
                  have B4 := B3.out.keep T.fr (not_no _)
                  obtain ⟨c0', c1'', cf'⟩ := B4.two
                  have FT := hid T.fr
                  have HML := hid hml
                  clear T hml B4 a0 a1 a2 a3 a4 af
                  unfold refV
                  go_wp2_with fail
                  go_meet
                  exact ⟨r2, 0, true, F3, _, m4, rfl, rfl, rfl, rfl, rfl, rfl, TW0.out _ (FH.out.trans ((FT.out.mono (fun k _ h => absurd h (not_no k))).trans hst.out.2.2.2 (fun k _ e => .inl (by rw [e]; exact HG7.out))) (fun _ _ h => h)), by have := HML.out; unfold Hid; omega, hst.out.1, hst.out.2.1, hst.out.2.2.1, N3'⟩
            · by_cases ck : kind = 5
              · subst ck
                obtain ⟨⟨r1, r2⟩, hr⟩ : ∃ r, copyL nodes (m.map Gr.abs) ix = r := ⟨_, rfl⟩
                have HR := hid hr
                have HRL := hid (show r1.length ≤ m.length + 1 from by
                  have : r1 = (copyL nodes (m.map Gr.abs) ix).1 := by rw [hr]
                  rw [this]; unfold copyL sendL; split
                  · split
                    · simp
                    · split
                      · simp
                      · split <;> simp
                  · simp)
                clear hr ck7
                as_aux_lemma =>
                  go_wp2_with fail
                  have HOK := hid (show ∀ p ∈ m, p.b.length ≤ 1048640 from fun p hp => (S0.out.n.ok p.abs (List.mem_map_of_mem hp)).2.2)
                  refine (ncopy_c S0.out.n ix _ HR.out).mono ?_
                  intro e w3 hr
                  obtain ⟨F3, rfl, S', hF, hG⟩ := S0.out.send' (Fr.refl No _) hr
                  have S3 := hid (show StN w w3 g F3 nodes r1 from S')
                  clear S' hr

                  have L3 := hid (L0.out.turn hF hG)
                  have B3 := hid (B0.out.keep hF HNF.out)
                  have D103 := hid (D10.out.keep hF (NF.out _ (Nat.le_refl _)))
                  have N3' := hid (show ¬ F3 w2.heap.size from fun h => by
                    rcases hG _ h with h | h
                    · exact HNF.out h
                    · have := S0.out.fr.size; have := HG7.out; have h9 := D10.out.lt; omega)
                  have FH := hid (show Fr (fun k => k < wr.heap.size ∨ wr.heap.size + 1 + 1 < k) W w3 from hF.mono (fun k _ h => by
                    rcases Nat.lt_or_ge k wr.heap.size with h1 | h1
                    · exact .inl h1
                    · exact absurd h (NF.out _ h1)))
                  clear hF hG S0 L0 B0 a0 a1 a2 a3 a4 af
                  obtain ⟨a0, a1, a2, a3, a4, af⟩ := D103.out.fives
                  obtain ⟨c0, c1', cf⟩ := B3.out.two

                  go_wp2_with fail
                  refine (rcopy_c L3.out.refL hm4096 nodes ix HOK.out _ HR.out).mono ?_

                  rintro e w4 ⟨v4, m4, rfl, T⟩
                  obtain ⟨A4, c4, rfl, hc4, hm4'⟩ := T.ref.own.slice
                  have hst := hid (plays_store S3.out L3.out B3.out T N3'.out HNW.out)
                  have hml : m4.length ≤ m.length + 1 := by
                    have h2 : m4.length = r1.length := by have h3 := congrArg List.length T.abs; rw [List.length_map] at h3; exact h3
                    have h1 := HRL.out
                    omega
                  have B4 := B3.out.keep T.fr (not_no _)
                  obtain ⟨c0', c1'', cf'⟩ := B4.two
                  have FT := hid T.fr
                  have HML := hid hml
                  clear T hml B4 a0 a1 a2 a3 a4 af
                  unfold refV
                  go_wp2_with fail
                  go_meet
                  exact ⟨r2, 0, true, F3, _, m4, rfl, rfl, rfl, rfl, rfl, rfl, TW0.out _ (FH.out.trans ((FT.out.mono (fun k _ h => absurd h (not_no k))).trans hst.out.2.2.2 (fun k _ e => .inl (by rw [e]; exact HG7.out))) (fun _ _ h => h)), by have := HML.out; unfold Hid; omega, hst.out.1, hst.out.2.1, hst.out.2.2.1, N3'⟩
              · by_cases ck6 : kind = 7
                · subst ck6
                  clear ck7 ck
                  as_aux_lemma =>
                    obtain ⟨L', hL'⟩ : ∃ L', forgetL (m.map Gr.abs) ix = L' := ⟨_, rfl⟩
                    have HRL := hid (show L'.length ≤ m.length + 1 from by rw [← hL']; unfold forgetL; have := List.length_filter_le (fun p : G3 => p.2.1 != ix) (m.map Gr.abs); rw [List.length_map] at this; omega)
                    have HLL := hid hL'
                    clear hL'
                    go_wp2_with fail
                    refine (forget_c S0.out.n ix _ HLL.out).mono ?_
                    rintro e w3 ⟨rfl, I3, hF⟩
                    rw [List.length_map]
                    obtain ⟨F3, hF3⟩ : ∃ F3, F = F3 := ⟨_, rfl⟩
                    have S3 := hid (show StN w w3 g F3 nodes L' from hF3 ▸ S0.out.same I3 hF)
                    have hG : ∀ k, F3 k → F k ∨ W.heap.size ≤ k := fun k hk => .inl (hF3 ▸ hk)
                    clear I3 hF3

                    have L3 := hid (L0.out.turn hF hG)
                    have B3 := hid (B0.out.keep hF HNF.out)
                    have D103 := hid (D10.out.keep hF (NF.out _ (Nat.le_refl _)))
                    have N3' := hid (show ¬ F3 w2.heap.size from fun h => by
                      rcases hG _ h with h | h
                      · exact HNF.out h
                      · have := S0.out.fr.size; have := HG7.out; have h9 := D10.out.lt; omega)
                    have FH := hid (show Fr (fun k => k < wr.heap.size ∨ wr.heap.size + 1 + 1 < k) W w3 from hF.mono (fun k _ h => by
                      rcases Nat.lt_or_ge k wr.heap.size with h1 | h1
                      · exact .inl h1
                      · exact absurd h (NF.out _ h1)))
                    clear hF hG S0 L0 B0 a0 a1 a2 a3 a4 af
                    obtain ⟨a0, a1, a2, a3, a4, af⟩ := D103.out.fives
                    obtain ⟨c0, c1', cf⟩ := B3.out.two

                    go_wp2_with fail
                    refine (rforget_c L3.out.refL hm4096 nodes ix _ HLL.out).mono ?_

                    rintro e w4 ⟨v4, m4, rfl, T⟩
                    obtain ⟨A4, c4, rfl, hc4, hm4'⟩ := T.ref.own.slice
                    have hst := hid (plays_store S3.out L3.out B3.out T N3'.out HNW.out)
                    have hml : m4.length ≤ m.length + 1 := by
                      have h2 : m4.length = L'.length := by have h3 := congrArg List.length T.abs; rw [List.length_map] at h3; exact h3
                      have h1 := HRL.out
                      omega
                    have B4 := B3.out.keep T.fr (not_no _)
                    obtain ⟨c0', c1'', cf'⟩ := B4.two
                    have FT := hid T.fr
                    have HML := hid hml
                    clear T hml B4 a0 a1 a2 a3 a4 af
                    unfold refV
                    go_wp2_with fail
                    go_meet
                    exact ⟨0, _, true, F3, _, m4, rfl, rfl, rfl, rfl, rfl, rfl, TW0.out _ (FH.out.trans ((FT.out.mono (fun k _ h => absurd h (not_no k))).trans hst.out.2.2.2 (fun k _ e => .inl (by rw [e]; exact HG7.out))) (fun _ _ h => h)), by have := HML.out; unfold Hid; omega, hst.out.1, hst.out.2.1, hst.out.2.2.1, N3'⟩
                · by_cases ck4 : kind = 4
                  · subst ck4
                    clear ck7 ck ck6
                    obtain ⟨⟨⟨ra, rz, rb⟩, rk⟩, hr⟩ : ∃ r, lookL (m.map Gr.abs) ix = r := ⟨_, rfl⟩
                    have HR := hid hr
                    obtain ⟨L', hL'⟩ : ∃ L', takeL (m.map Gr.abs) ix = L' := ⟨_, rfl⟩
                    have HRL := hid (show L'.length ≤ m.length + 1 from by rw [← hL']; have := takeL_len (m.map Gr.abs) ix; rw [List.length_map] at this; omega)
                    have HLL := hid hL'
                    clear hr hL'
                    as_aux_lemma =>
                      have q1 : ¬ w2.heap.size = wr.heap.size + 1 := by have := HG7.out; omega
                      have q2 : ¬ wr.heap.size + 1 = w2.heap.size := by have := HG7.out; omega
                      have q3 : ¬ wr.heap.size = wr.heap.size + 1 := by omega
                      have q4 : ¬ wr.heap.size + 1 = wr.heap.size := by omega
                      have q5 : ¬ w2.heap.size = wr.heap.size + 1 + 1 := by have := HG7.out; omega
                      have q6 : ¬ wr.heap.size + 1 + 1 = w2.heap.size := by have := HG7.out; omega
                      go_wp2_with fail
                      refine (take_c S0.out.n ix _ HR.out _ HLL.out).mono ?_
                      rintro e w3 ⟨v3, rfl, O3, I3, hF, G3⟩
                      replace O3 : OwnB 5 w3 v3 rb := O3
                      obtain ⟨Au, cu, rfl, hcu⟩ := O3.slice
                      have hG : ∀ k, F k → F k ∨ W.heap.size ≤ k := fun k hk => .inl hk
                      have hZ : Fr (fun k => k = wr.heap.size + 1) w3 (((w3.setCell ⟨wr.heap.size + 1, 0, none⟩ (.int .i64 ra)).setCell ⟨wr.heap.size + 1, 1, none⟩ (.int .i64 rz)).setCell ⟨wr.heap.size + 1, 2, none⟩ (.slice Au rb.length cu)) := Fr.setCell (S := fun k => k = wr.heap.size + 1) (Fr.setCell (S := fun k => k = wr.heap.size + 1) (Fr.setCell (S := fun k => k = wr.heap.size + 1) (Fr.refl _ w3) (fun _ => rfl) _) (fun _ => rfl) _) (fun _ => rfl) _
                      have L30 := L0.out.turn hF hG
                      have B30 := B0.out.keep hF HNF.out
                      have D10' := D10.out.keep hF (NF.out _ (Nat.le_refl _))
                      have D13' := D13.out.keep hF (NF.out _ (by omega))
                      have D14' := D14.out.keep hF (NF.out _ (by omega))
                      have hUW : ∀ k, Of (.slice Au rb.length cu) k → W.heap.size ≤ k := G3
                      have hWsz : wr.heap.size + 1 + 1 < W.heap.size := D14.out.lt
                      have S3 := hid ((S0.out.same I3 hF).keepS hZ (fun k hk e => NF.out (wr.heap.size + 1) (by omega) (e ▸ hk)) (fun k e => by rw [e]; exact GEN.out _ (by omega)))
                      have L3 := hid (show Fly w _ F (.slice A5 m.length c5) m from ⟨L30.own.keep hZ (fun k hk e => by have := ROWLT.out k hk; omega), L30.new, L30.sep, fun p hp => ⟨(L30.data p hp).1.keep hZ (fun k hk e => (L30.data p hp).1.ne_ D13' (by decide) (e ▸ hk)), (L30.data p hp).2⟩⟩)
                      have B3 := hid (B30.keep hZ (by have := HG7.out; omega))
                      have D103 := hid (D10'.keep hZ (by omega))
                      have D133 := hid (show Blk _ (wr.heap.size + 1) 29 #[.int .i64 ra, .int .i64 rz, .slice Au rb.length cu] from by have h := ((D13'.set_ 0 (.int .i64 ra)).set_ 1 (.int .i64 rz)).set_ 2 (.slice Au rb.length cu); simpa using h)
                      have D143 := hid (D14'.keep hZ (by omega))
                      have O33 := hid (O3.keep hZ (fun k hk e => O3.ne_ D13' (by decide) (e ▸ hk)))
                      have WS := hid (show W.heap.size ≤ (((w3.setCell ⟨wr.heap.size + 1, 0, none⟩ (.int .i64 ra)).setCell ⟨wr.heap.size + 1, 1, none⟩ (.int .i64 rz)).setCell ⟨wr.heap.size + 1, 2, none⟩ (.slice Au rb.length cu)).heap.size from Nat.le_trans hF.size hZ.size)
                      have WZ := hid hWsz
                      obtain ⟨f0, f1, f2, ff⟩ := D13'.three
                      clear a0 a1 a2 a3 a4 af
                      obtain ⟨a0, a1, a2, a3, a4, af⟩ := D10'.fives
                      obtain ⟨c0, c1', cf⟩ := B30.two
                      clear hF hG hZ S0 L0 B0 O3 I3 G3 L30 B30 D10' D13' D14' hUW hWsz
                      go_wp2_with fail
                      generalize ((w3.setCell ⟨wr.heap.size + 1, 0, none⟩ (.int .i64 ra)).setCell ⟨wr.heap.size + 1, 1, none⟩ (.int .i64 rz)).setCell ⟨wr.heap.size + 1, 2, none⟩ (.slice Au rb.length cu) = ws at S3 L3 B3 D103 D133 D143 O33 WS ⊢
                      clear a0 a1 a2 a3 a4 af c0 c1' cf f0 f1 f2 ff
                      refine (rtake_c L3.out.refL hm4096 nodes ix _ HR.out _ HLL.out).mono ?_
                      rintro e w4 ⟨v4, m4, u4, rfl, T, OU⟩
                      replace OU : OwnB 5 w4 u4 rb := OU
                      obtain ⟨Av, cv, rfl, hcv⟩ := OU.slice
                      obtain ⟨A4, c4, rfl, hc4, hm4'⟩ := T.ref.own.slice
                      have hst := plays_store S3.out L3.out B3.out T HNF.out HNW.out
                      have hml : m4.length ≤ m.length + 1 := by
                        have h2 : m4.length = L'.length := by have h3 := congrArg List.length T.abs; rw [List.length_map] at h3; exact h3
                        have h1 := HRL.out
                        omega
                      have B4 := B3.out.keep T.fr (not_no _)
                      have D134 := D133.out.keep T.fr (not_no _)
                      have D144 := D143.out.keep T.fr (not_no _)
                      have O34 := O33.out.keep T.fr (fun k _ => not_no k)
                      have hrow4 : ∀ k, Of (.slice A4 m4.length c4) k → k ≠ wr.heap.size + 1 + 1 := fun k hk e => by
                        rcases T.row k hk with h | h
                        · have := ROWLT.out k h; omega
                        · have := WS.out; have := WZ.out; omega
                      have FZ2 := hst.2.2.2
                      have D135 := D134.keep FZ2 (by have := HG7.out; omega)
                      have D145 := D144.keep FZ2 (by have := HG7.out; omega)
                      have O35 := O34.keep FZ2 (fun k hk e => O34.ne_ B4 (by decide) (e ▸ hk))
                      have OU5 := OU.keep FZ2 (fun k hk e => OU.ne_ B4 (by decide) (e ▸ hk))
                      have hZ3 : ∀ w5, Fr (fun k => k = wr.heap.size + 1 + 1) w5 (((w5.setCell ⟨wr.heap.size + 1 + 1, 0, none⟩ (.int .i64 ra)).setCell ⟨wr.heap.size + 1 + 1, 1, none⟩ (.int .i64 rz)).setCell ⟨wr.heap.size + 1 + 1, 2, none⟩ (.slice Av rb.length cv)) := fun w5 => Fr.setCell (S := fun k => k = wr.heap.size + 1 + 1) (Fr.setCell (S := fun k => k = wr.heap.size + 1 + 1) (Fr.setCell (S := fun k => k = wr.heap.size + 1 + 1) (Fr.refl _ w5) (fun _ => rfl) _) (fun _ => rfl) _) (fun _ => rfl) _
                      have RS := hid (hst.1.keepS (hZ3 _) (fun k hk e => NF.out (wr.heap.size + 1 + 1) (by omega) (e ▸ hk)) (fun k e => by rw [e]; exact GEN.out _ (by omega)))
                      have RL := hid (show Fly w _ F (.slice A4 m4.length c4) m4 from ⟨hst.2.1.own.keep (hZ3 _) (fun k hk e => hrow4 k hk e), hst.2.1.new, hst.2.1.sep, fun p hp => ⟨(hst.2.1.data p hp).1.keep (hZ3 _) (fun k hk e => (hst.2.1.data p hp).1.ne_ D145 (by decide) (e ▸ hk)), (hst.2.1.data p hp).2⟩⟩)
                      have RB := hid (hst.2.2.1.keep (hZ3 _) (by have := HG7.out; omega))
                      have RT := hid (show Twin _ (wr.heap.size + 1) (wr.heap.size + 1 + 1) from ⟨ra, rz, Au, rb.length, cu, Av, cv, rb, D135.keep (hZ3 _) (by omega), by have h := ((D145.set_ 0 (.int .i64 ra)).set_ 1 (.int .i64 rz)).set_ 2 (.slice Av rb.length cv); simpa using h, rfl, (O35.keep (hZ3 _) (fun k hk e => O35.ne_ D145 (by decide) (e ▸ hk))).rd, (OU5.keep (hZ3 _) (fun k hk e => OU5.ne_ D145 (by decide) (e ▸ hk))).rd⟩)
                      obtain ⟨c0', c1'', cf'⟩ := B4.two
                      obtain ⟨g0, g1, g2, gf⟩ := D144.three
                      have HML := hid hml
                      clear T hml B4 D134 D144 O34 hrow4 FZ2 D135 D145 O35 OU5 OU hst hZ3
                      unfold refV
                      go_wp2_with fail
                      go_meet
                      exact ⟨0, 0, rk, F, _, m4, rfl, rfl, rfl, rfl, rfl, rfl, RT, by have := HML.out; unfold Hid; omega, RS, RL, RB, HNF⟩
                  · by_cases ck8 : kind = 6
                    · subst ck8
                      clear ck7 ck ck6 ck4
                      obtain ⟨⟨⟨ra, rz, rb⟩, rk⟩, hr⟩ : ∃ r, lookL (m.map Gr.abs) ix = r := ⟨_, rfl⟩
                      have HR := hid hr
                      obtain ⟨L', hL'⟩ : ∃ L', takeL (m.map Gr.abs) ix = L' := ⟨_, rfl⟩
                      have HRL := hid (show L'.length ≤ m.length + 1 from by rw [← hL']; have := takeL_len (m.map Gr.abs) ix; rw [List.length_map] at this; omega)
                      have HLL := hid hL'
                      clear hr hL'
                      as_aux_lemma =>
                        go_wp2_with fail
                        refine (drop_c S0.out.n ix rk (by rw [HR.out]) _ HLL.out).mono ?_
                        rintro e w3 ⟨rfl, I3, hF⟩
                        obtain ⟨F3, hF3⟩ : ∃ F3, F = F3 := ⟨_, rfl⟩
                        have S3 := hid (show StN w w3 g F3 nodes L' from hF3 ▸ S0.out.same I3 hF)
                        have hG : ∀ k, F3 k → F k ∨ W.heap.size ≤ k := fun k hk => .inl (hF3 ▸ hk)
                        clear I3 hF3

                        have L3 := hid (L0.out.turn hF hG)
                        have B3 := hid (B0.out.keep hF HNF.out)
                        have D103 := hid (D10.out.keep hF (NF.out _ (Nat.le_refl _)))
                        have N3' := hid (show ¬ F3 w2.heap.size from fun h => by
                          rcases hG _ h with h | h
                          · exact HNF.out h
                          · have := S0.out.fr.size; have := HG7.out; have h9 := D10.out.lt; omega)
                        have FH := hid (show Fr (fun k => k < wr.heap.size ∨ wr.heap.size + 1 + 1 < k) W w3 from hF.mono (fun k _ h => by
                          rcases Nat.lt_or_ge k wr.heap.size with h1 | h1
                          · exact .inl h1
                          · exact absurd h (NF.out _ h1)))
                        clear hF hG S0 L0 B0 a0 a1 a2 a3 a4 af
                        obtain ⟨a0, a1, a2, a3, a4, af⟩ := D103.out.fives
                        obtain ⟨c0, c1', cf⟩ := B3.out.two

                        go_wp2_with fail
                        refine (rtake_c L3.out.refL hm4096 nodes ix _ HR.out _ HLL.out).mono ?_

                        rintro e w4 ⟨v4, m4, u4, rfl, T, OU⟩
                        obtain ⟨Au, cu, rfl, hcu⟩ := OU.slice
                        clear OU
                        obtain ⟨A4, c4, rfl, hc4, hm4'⟩ := T.ref.own.slice
                        have hst := hid (plays_store S3.out L3.out B3.out T N3'.out HNW.out)
                        have hml : m4.length ≤ m.length + 1 := by
                          have h2 : m4.length = L'.length := by have h3 := congrArg List.length T.abs; rw [List.length_map] at h3; exact h3
                          have h1 := HRL.out
                          omega
                        have B4 := B3.out.keep T.fr (not_no _)
                        obtain ⟨c0', c1'', cf'⟩ := B4.two
                        have FT := hid T.fr
                        have HML := hid hml
                        clear T hml B4 a0 a1 a2 a3 a4 af
                        unfold refV
                        go_wp2_with fail
                        go_meet
                        exact ⟨0, 0, rk, F3, _, m4, rfl, rfl, rfl, rfl, rfl, rfl, TW0.out _ (FH.out.trans ((FT.out.mono (fun k _ h => absurd h (not_no k))).trans hst.out.2.2.2 (fun k _ e => .inl (by rw [e]; exact HG7.out))) (fun _ _ h => h)), by have := HML.out; unfold Hid; omega, hst.out.1, hst.out.2.1, hst.out.2.2.1, N3'⟩
                    · have e1 : (kind == 1) = false := by rw [beq_eq_false_iff_ne]; omega
                      have e2 : (kind == 2) = false := by rw [beq_eq_false_iff_ne]; omega
                      have e3 : (kind == 3) = false := by rw [beq_eq_false_iff_ne]; omega
                      have e4 : (kind == 4) = false := by rw [beq_eq_false_iff_ne]; omega
                      have e5 : (kind == 5) = false := by rw [beq_eq_false_iff_ne]; omega
                      have e6 : (kind == 6) = false := by rw [beq_eq_false_iff_ne]; omega
                      have e7 : (kind == 7) = false := by rw [beq_eq_false_iff_ne]; omega
                      go_wp2_with fail
                      go_meet
                      exact ⟨0, 0, true, F, _, m, rfl, rfl, rfl, rfl, rfl, rfl, TW0.out _ (Fr.refl _ _), by unfold Hid; omega, S0, L0, B0, HNF⟩
          case rest =>
            as_aux_lemma =>
              clear D10 D13 D14 S0 L0 B0
              obtain ⟨en, nn, ok, F2, v2, m2, rfl, rfl, rfl, rfl, rfl, rfl, HT, HM2, S, L, B, NF2⟩ := hcut
              obtain ⟨A6, c6', rfl, hc6, hm6⟩ := L.out.own.slice
              obtain ⟨ta, tz, T1, tn, tc1, T2, tc2, tbs, X1, X2, rfl, R1, R2⟩ := HT.out
              have HR1 := hid R1
              have HR2 := hid R2
              obtain ⟨x0, x1, x2, xf⟩ := X1.three
              obtain ⟨y0, y1, y2, yf⟩ := X2.three
              obtain ⟨b0, b1, bf⟩ := B.out.two
              clear R1 R2 X1 X2 HT
              go_wp2_with fail
              have SD := hid (S.out.keep ((Fr.refl No _).drew))
              go_region_held3 (fun w' => w'.cell? ⟨wr.heap.size + 1, 0, none⟩ = some (.int .i64 ta) ∧ w'.cell? ⟨wr.heap.size + 1, 1, none⟩ = some (.int .i64 tz) ∧ w'.cell? ⟨wr.heap.size + 1, 2, none⟩ = some (.slice T1 tbs.length tc1) ∧ w'.cell? ⟨wr.heap.size + 1 + 1, 0, none⟩ = some (.int .i64 ta) ∧ w'.cell? ⟨wr.heap.size + 1 + 1, 1, none⟩ = some (.int .i64 tz) ∧ w'.cell? ⟨wr.heap.size + 1 + 1, 2, none⟩ = some (.slice T2 tbs.length tc2) ∧ w'.cell? ⟨w2.heap.size, 1, none⟩ = some (.slice A6 m2.length c6'))
                (first
                  | exact ⟨x0, x1, x2, y0, y1, y2, b1⟩
                  | exact ⟨HF9.out.cs x0, HF9.out.cs x1, HF9.out.cs x2, HF9.out.cs y0, HF9.out.cs y1, HF9.out.cs y2, HF9.out.cs b1⟩
                  | fail)
                ((first
                | (go_at_call 24; refine (same_g _ ta tz ta tz _ _ tbs tbs (HR1.out.heap (by rfl)) (HR2.out.heap (by rfl)) true (by simp)).mono ?_; rintro e w9 ⟨rfl, F9⟩; have HF9 := hid (show Fr No wc.drew w9 from F9); have S9 := hid (SD.out.keep HF9.out); clear F9)
                | (go_at_call 16; refine (flying_c S9.out.n).mono ?_; rintro e w10 ⟨rfl, rfl⟩; rw [List.length_map])
                | fail))
              rename World => w9
              have SX : Hid (StN w w9 g F2 nodes (m2.map Gr.abs)) := hid S9.out
              have LX := hid (L.out.keep (((Fr.refl No wc).drew).fresh_no HF9.out))
              have BX := hid (B.out.keep (((Fr.refl No wc).drew).fresh_no HF9.out) (not_no _))
              have b1x := HF9.out.cs b1
              have hml2 := HM2.out
              have hm81 : m2.length ≤ 81 := by omega
              clear SD HF9 S9 S L B x0 x1 x2 xf y0 y1 y2 yf b0 b1 bf HR1 HR2
              go_wp2_with fail
              go_loopg [19] (m2.length + 2) (fun q v19 w' => ∃ (j : Int), v19 = .int .i64 j ∧ -1 ≤ j ∧ j ≤ m2.length + 1 ∧ q = (m2.length + 1 - j).toNat ∧ Hid (Fr No w9 w'))
              case atStart => exact ⟨-1, rfl, by omega, by omega, by omega, Fr.refl _ _⟩
              case round =>
                clear hm80 hml2
                obtain ⟨j, rfl, hj1, hj2, hq, HF⟩ := hrel
                have HQ2 := hid hq
                clear hq
                have SR := hid (SX.out.keep HF.out)
                have LR := hid (LX.out.keep HF.out)
                have BR := hid (BX.out.keep HF.out (not_no _))
                obtain ⟨z0, z1, zf⟩ := BR.out.two
                by_cases dj : j ≤ m2.length
                · rcases (show (0 ≤ j ∧ j < m2.length) ∨ j = -1 ∨ j = (m2.length : Int) from by omega) with ⟨dj0, dj1⟩ | dj0 | dj0
                  · obtain ⟨k, rfl⟩ := Int.eq_ofNat_of_zero_le dj0
                    have dk : k < m2.length := by omega
                    obtain ⟨bb, off', cc, p, Ap, cp, hv, hc', hp, hpm, hpv, _, _, _⟩ := rdG_at LR.out.rd LR.out.bytes dk
                    have hz : (m2.map Gr.abs)[k]? = some p.abs := by rw [List.getElem?_map, hp]; rfl
                    injection hv with hv1 _ hv2
                    subst hv1 hv2
                    have HZ := hid hz
                    have HPM := hid hpm
                    have HP := hid hp
                    have HPV := hid hpv
                    clear hz hpm hp hpv
                    as_aux_lemma =>
                    go_wp2_with fail
                    refine (look_c SR.out.n k _ (look_ok HZ.out)).mono ?_
                    rintro e w5 ⟨v5, rfl, O, F', G⟩
                    replace O : OwnB 5 w5 v5 p.b := O
                    obtain ⟨A5', c5', rfl, hc5'⟩ := O.slice
                    have hF5 := F'.alloc (.cells #[.int .i64 p.a, .int .i64 p.z, .slice A5' p.b.length c5'] 29)
                    have F5 := hid (HF.out.fresh_no hF5)
                    have O5 := hid (O.alloc (.cells #[.int .i64 p.a, .int .i64 p.z, .slice A5' p.b.length c5'] 29))
                    have D5 := hid (Blk.new w5 29 #[.int .i64 p.a, .int .i64 p.z, .slice A5' p.b.length c5'])
                    obtain ⟨b', o', c1', p', A'', c'', hv', hc'', hp', hpm', hpv', r0, r1, r2⟩ := rdG_at (LR.out.rd.keep hF5 (fun k _ => not_no k)) (fun q hq => (LR.out.bytes q hq).keep hF5 (fun k _ => not_no k)) dk
                    have e1 : p' = p := by have h := HP.out; rw [h] at hp'; exact (Option.some.inj hp').symm
                    subst e1
                    injection hv' with hv' _ hcc
                    injection hv' with hv'
                    injection hv' with hb1 hb2
                    subst hb1 hb2 hcc
                    have P5 := hid (show RdB (w5.alloc (.cells #[.int .i64 p'.a, .int .i64 p'.z, .slice A5' p'.b.length c5'] 29)) (.slice A'' p'.b.length c'') p'.b from by rw [← hpv']; exact (LR.out.bytes p' HPM.out).keep hF5 (fun k _ => not_no k))
                    have B5 := hid (BR.out.keep hF5 (not_no _))
                    clear z0 z1 zf
                    obtain ⟨z0, z1, zf⟩ := B5.out.two
                    obtain ⟨a0, a1, a2, af⟩ := D5.out.three
                    unfold Gr.abs
                    clear O F' G hF5 HP hp' HPV hpv' hpm' HZ
                    go_wp2_with fail
                    refine wp_region_held_drew (S := (fun w' => w'.cell? ⟨w5.heap.size, 0, none⟩ = some (.int .i64 p'.a) ∧ w'.cell? ⟨w5.heap.size, 1, none⟩ = some (.int .i64 p'.z) ∧ w'.cell? ⟨w5.heap.size, 2, none⟩ = some (.slice A5' p'.b.length c5') ∧ w'.cell? ⟨w2.heap.size, 1, none⟩ = some (.slice (some ⟨bb, off', none⟩) m2.length c6') ∧ w'.cell? ⟨bb, off' + k * 3, none⟩ = some (.int .i64 p'.a) ∧ w'.cell? ⟨bb, off' + k * 3 + 1, none⟩ = some (.int .i64 p'.z) ∧ w'.cell? ⟨bb, off' + k * 3 + 2, none⟩ = some (.slice A'' p'.b.length c''))) (by kernel_rfl) ?_ (fun hHeld => ?_)
                    · (try dsimp only)
                      exact ⟨a0, a1, a2, z1, r0, r1, r2⟩
                    refine wpAnyH_take (i := 0) (oi := ⟨_, _, _, _, _, _⟩) (v := ?_) rfl (by kernel_rfl) (by kernel_rfl) (by kernel_rfl) (fun _ _ _ h => h) (Or.inl ⟨by rfl, ?_⟩) (by assumption) ?_
                    rotate_left
                    · (intro w hSw; (try dsimp only at hSw); go_simp)
                      try with_reducible rfl
                    try simp only [Act.put, List.setIfInBounds_toArray, List.set_cons_zero, List.set_cons_succ]
                    refine wpAnyH_take (i := 1) (oi := ⟨_, _, _, _, _, _⟩) (v := ?_) rfl (by kernel_rfl) (by kernel_rfl) (by kernel_rfl) (fun _ _ _ h => h) (Or.inl ⟨by rfl, ?_⟩) (by assumption) ?_
                    rotate_left
                    · (intro w hSw; (try dsimp only at hSw); go_simp)
                      try with_reducible rfl
                    try simp only [Act.put, List.setIfInBounds_toArray, List.set_cons_zero, List.set_cons_succ]
                    refine wpAnyH_take (i := 2) (oi := ⟨_, _, _, _, _, _⟩) (v := ?_) rfl (by kernel_rfl) (by kernel_rfl) (by kernel_rfl) (fun _ _ _ h => h) (Or.inl ⟨by rfl, ?_⟩) (by assumption) ?_
                    rotate_left
                    · (intro w hSw; (try dsimp only at hSw); go_simp)
                      try with_reducible rfl
                    try simp only [Act.put, List.setIfInBounds_toArray, List.set_cons_zero, List.set_cons_succ]
                    refine wpAnyH_take (i := 3) (oi := ⟨_, _, _, _, _, _⟩) (v := ?_) rfl (by kernel_rfl) (by kernel_rfl) (by kernel_rfl) (fun _ _ _ h => h) (Or.inl ⟨by rfl, ?_⟩) (by assumption) ?_
                    rotate_left
                    · (intro w hSw; (try dsimp only at hSw); go_simp)
                      try with_reducible rfl
                    try simp only [Act.put, List.setIfInBounds_toArray, List.set_cons_zero, List.set_cons_succ]
                    refine wpAnyH_take (i := 4) (oi := ⟨_, _, _, _, _, _⟩) (v := ?_) rfl (by kernel_rfl) (by kernel_rfl) (by kernel_rfl) (fun _ _ _ h => h) (Or.inl ⟨by rfl, ?_⟩) (by assumption) ?_
                    rotate_left
                    · (intro w hSw; (try dsimp only at hSw); go_simp)
                      try with_reducible rfl
                    try simp only [Act.put, List.setIfInBounds_toArray, List.set_cons_zero, List.set_cons_succ]
                    refine wpAnyH_take (i := 5) (oi := ⟨_, _, _, _, _, _⟩) (v := ?_) rfl (by kernel_rfl) (by kernel_rfl) (by kernel_rfl) (fun _ _ _ h => h) (Or.inl ⟨by rfl, ?_⟩) (by assumption) ?_
                    rotate_left
                    · (intro w hSw; (try dsimp only at hSw); go_simp)
                      try with_reducible rfl
                    try simp only [Act.put, List.setIfInBounds_toArray, List.set_cons_zero, List.set_cons_succ]
                    refine wpAnyH_take (i := 6) (oi := ⟨_, _, _, _, _, _⟩) (v := ?_) rfl (by kernel_rfl) (by kernel_rfl) (by kernel_rfl) (fun _ _ _ h => h) (Or.inl ⟨by rfl, ?_⟩) (by assumption) ?_
                    rotate_left
                    · (intro w hSw; (try dsimp only at hSw); go_simp)
                      try with_reducible rfl
                    try simp only [Act.put, List.setIfInBounds_toArray, List.set_cons_zero, List.set_cons_succ]
                    refine wpAnyH_take (i := 7) (oi := ⟨_, _, _, _, _, _⟩) (v := ?_) rfl (by kernel_rfl) (by kernel_rfl) (by kernel_rfl) (fun _ _ _ h => h) (Or.inl ⟨by rfl, ?_⟩) (by assumption) ?_
                    rotate_left
                    · (intro w hSw; (try dsimp only at hSw); go_simp)
                      try with_reducible rfl
                    try simp only [Act.put, List.setIfInBounds_toArray, List.set_cons_zero, List.set_cons_succ]
                    refine wpAnyH_take (i := 8) (oi := ⟨_, _, _, _, _, _⟩) (v := ?_) rfl (by kernel_rfl) (by kernel_rfl) (by kernel_rfl) (fun _ _ _ h => h) (Or.inl ⟨by rfl, ?_⟩) (by assumption) ?_
                    rotate_left
                    · (intro w hSw; (try dsimp only at hSw); go_simp)
                      try with_reducible rfl
                    try simp only [Act.put, List.setIfInBounds_toArray, List.set_cons_zero, List.set_cons_succ]
                    refine wpAnyH_take (i := 9) (oi := ⟨_, _, _, _, _, _⟩) (v := ?_) rfl (by kernel_rfl) (by kernel_rfl) (by kernel_rfl) (fun _ _ _ h => h) (Or.inl ⟨by rfl, ?_⟩) (by assumption) ?_
                    rotate_left
                    · (intro w hSw; (try dsimp only at hSw); go_simp)
                      try with_reducible rfl
                    try simp only [Act.put, List.setIfInBounds_toArray, List.set_cons_zero, List.set_cons_succ]
                    refine wpAnyH_take (i := 10) (oi := ⟨_, _, _, _, _, _⟩) (v := ?_) rfl (by kernel_rfl) (by kernel_rfl) (by kernel_rfl) (fun _ _ _ h => h) (Or.inl ⟨by rfl, ?_⟩) (by assumption) ?_
                    rotate_left
                    · (intro w hSw; (try dsimp only at hSw); go_simp)
                      try with_reducible rfl
                    try simp only [Act.put, List.setIfInBounds_toArray, List.set_cons_zero, List.set_cons_succ]
                    refine wpAnyH_take (i := 11) (oi := ⟨_, _, _, _, _, _⟩) (v := ?_) rfl (by kernel_rfl) (by kernel_rfl) (by kernel_rfl) (fun _ _ _ h => h) (Or.inl ⟨by rfl, ?_⟩) (by assumption) ?_
                    rotate_left
                    · (intro w hSw; (try dsimp only at hSw); go_simp)
                      try with_reducible rfl
                    try simp only [Act.put, List.setIfInBounds_toArray, List.set_cons_zero, List.set_cons_succ]
                    refine wpAnyH_take (i := 12) (oi := ⟨_, _, _, _, _, _⟩) (v := ?_) rfl (by kernel_rfl) (by kernel_rfl) (by kernel_rfl) (fun _ _ _ h => h) (Or.inl ⟨by rfl, ?_⟩) (by assumption) ?_
                    rotate_left
                    · (intro w hSw; (try dsimp only at hSw); go_simp)
                      try with_reducible rfl
                    try simp only [Act.put, List.setIfInBounds_toArray, List.set_cons_zero, List.set_cons_succ]
                    refine wpAnyH_take (i := 13) (oi := ⟨_, _, _, _, _, _⟩) (v := ?_) rfl (by kernel_rfl) (by kernel_rfl) (by kernel_rfl) (fun _ _ _ h => h) (Or.inl ⟨by rfl, ?_⟩) (by assumption) ?_
                    rotate_left
                    · (intro w hSw; (try dsimp only at hSw); go_simp)
                      try with_reducible rfl
                    try simp only [Act.put, List.setIfInBounds_toArray, List.set_cons_zero, List.set_cons_succ]
                    refine wpAnyH_take (i := 14) (oi := ⟨_, _, _, _, _, _⟩) (v := ?_) rfl (by kernel_rfl) (by kernel_rfl) (by kernel_rfl) (fun _ _ _ h => h) (Or.inl ⟨by rfl, ?_⟩) (by assumption) ?_
                    rotate_left
                    · (intro w hSw; (try dsimp only at hSw); go_simp)
                      try with_reducible rfl
                    try simp only [Act.put, List.setIfInBounds_toArray, List.set_cons_zero, List.set_cons_succ]
                    refine wpAnyH_take (i := 15) (oi := ⟨_, _, _, _, _, _⟩) (v := ?_) rfl (by kernel_rfl) (by kernel_rfl) (by kernel_rfl) (fun _ _ _ h => h) (Or.inl ⟨by rfl, ?_⟩) (by assumption) ?_
                    rotate_left
                    · (intro w hSw; (try dsimp only at hSw); go_simp)
                      try with_reducible rfl
                    try simp only [Act.put, List.setIfInBounds_toArray, List.set_cons_zero, List.set_cons_succ]
                    refine wpAnyH_take (i := 16) (oi := ⟨_, _, _, _, _, _⟩) (v := ?_) rfl (by kernel_rfl) (by kernel_rfl) (by kernel_rfl) (fun _ _ _ h => h) (Or.inl ⟨by rfl, ?_⟩) (by assumption) ?_
                    rotate_left
                    · (intro w hSw; (try dsimp only at hSw); go_simp)
                      try with_reducible rfl
                    try simp only [Act.put, List.setIfInBounds_toArray, List.set_cons_zero, List.set_cons_succ]
                    refine wpAnyH_take (i := 17) (oi := ⟨_, _, _, _, _, _⟩) (v := ?_) rfl (by kernel_rfl) (by kernel_rfl) (by kernel_rfl) (fun _ _ _ h => h) (Or.inl ⟨by rfl, ?_⟩) (by assumption) ?_
                    rotate_left
                    · (intro w hSw; (try dsimp only at hSw); go_simp)
                      try with_reducible rfl
                    try simp only [Act.put, List.setIfInBounds_toArray, List.set_cons_zero, List.set_cons_succ]
                    refine wpAnyH_take (i := 18) (oi := ⟨_, _, _, _, _, _⟩) (v := ?_) rfl (by kernel_rfl) (by kernel_rfl) (by kernel_rfl) (fun _ _ _ h => h) (Or.inl ⟨by rfl, ?_⟩) (by assumption) ?_
                    rotate_left
                    · (intro w hSw; (try dsimp only at hSw); go_simp)
                      try with_reducible rfl
                    try simp only [Act.put, List.setIfInBounds_toArray, List.set_cons_zero, List.set_cons_succ]
                    refine wpAnyH_take (i := 19) (oi := ⟨_, _, _, _, _, _⟩) (v := ?_) rfl (by kernel_rfl) (by kernel_rfl) (by kernel_rfl) (fun _ _ _ h => h) (Or.inl ⟨by rfl, ?_⟩) (by assumption) ?_
                    rotate_left
                    · (intro w hSw; (try dsimp only at hSw); go_simp)
                      try with_reducible rfl
                    try simp only [Act.put, List.setIfInBounds_toArray, List.set_cons_zero, List.set_cons_succ]
                    refine wpAnyH_ready (rs := [20]) (by kernel_rfl) (by simp) ?_
                    refine AllReadyH.cons (o := ⟨_, _, _, _, _, _⟩) rfl (fun K hK => ?_) ?_
                    rotate_left
                    · exact AllReadyH.nil
                    go_simp
                    (go_at_call 24; refine (same_g _ p'.a p'.z p'.a p'.z _ _ p'.b p'.b (O5.out.rd.heap (by rfl)) (P5.out.heap (by rfl)) true (by simp)).mono ?_; rintro e w11 ⟨rfl, F11⟩; have HF11 := hid (show Fr No (w5.alloc (.cells #[.int .i64 p'.a, .int .i64 p'.z, .slice A5' p'.b.length c5'] 29)).drew w11 from F11); clear F11)
                    try go_wp2_with fail
                    refine hK.out _ _ ?_ (fun hHeld => ?_)
                    · (try dsimp only)
                      exact ⟨HF11.out.cs a0, HF11.out.cs a1, HF11.out.cs a2, HF11.out.cs z1, HF11.out.cs r0, HF11.out.cs r1, HF11.out.cs r2⟩
                    clear hK K
                    try simp only [Act.put, List.setIfInBounds_toArray, List.set_cons_zero, List.set_cons_succ]
                    refine wpAnyH_take (i := 21) (oi := ⟨_, _, _, _, _, _⟩) (v := ?_) rfl (by kernel_rfl) (by kernel_rfl) (by kernel_rfl) (fun _ _ _ h => h) (Or.inl ⟨by rfl, ?_⟩) (by assumption) ?_
                    rotate_left
                    · (intro w hSw; (try dsimp only at hSw); go_simp)
                      try with_reducible rfl
                    try simp only [Act.put, List.setIfInBounds_toArray, List.set_cons_zero, List.set_cons_succ]
                    refine wpAnyH_take (i := 22) (oi := ⟨_, _, _, _, _, _⟩) (v := ?_) rfl (by kernel_rfl) (by kernel_rfl) (by kernel_rfl) (fun _ _ _ h => h) (Or.inl ⟨by rfl, ?_⟩) (by assumption) ?_
                    rotate_left
                    · (intro w hSw; (try dsimp only at hSw); go_simp)
                      try with_reducible rfl
                    try simp only [Act.put, List.setIfInBounds_toArray, List.set_cons_zero, List.set_cons_succ]
                    refine wpAnyH_take (i := 23) (oi := ⟨_, _, _, _, _, _⟩) (v := ?_) rfl (by kernel_rfl) (by kernel_rfl) (by kernel_rfl) (fun _ _ _ h => h) (Or.inl ⟨by rfl, ?_⟩) (by assumption) ?_
                    rotate_left
                    · (intro w hSw; (try dsimp only at hSw); go_simp)
                      try with_reducible rfl
                    try simp only [Act.put, List.setIfInBounds_toArray, List.set_cons_zero, List.set_cons_succ]
                    refine wpAnyH_take (i := 24) (oi := ⟨_, _, _, _, _, _⟩) (v := ?_) rfl (by kernel_rfl) (by kernel_rfl) (by kernel_rfl) (fun _ _ _ h => h) (Or.inl ⟨by rfl, ?_⟩) (by assumption) ?_
                    rotate_left
                    · (intro w hSw; (try dsimp only at hSw); go_simp)
                      try with_reducible rfl
                    try simp only [Act.put, List.setIfInBounds_toArray, List.set_cons_zero, List.set_cons_succ]
                    refine wpAnyH_take (i := 25) (oi := ⟨_, _, _, _, _, _⟩) (v := ?_) rfl (by kernel_rfl) (by kernel_rfl) (by kernel_rfl) (fun _ _ _ h => h) (Or.inl ⟨by rfl, ?_⟩) (by assumption) ?_
                    rotate_left
                    · (intro w hSw; (try dsimp only at hSw); go_simp)
                      try with_reducible rfl
                    try simp only [Act.put, List.setIfInBounds_toArray, List.set_cons_zero, List.set_cons_succ]
                    refine wpAnyH_take (i := 26) (oi := ⟨_, _, _, _, _, _⟩) (v := ?_) rfl (by kernel_rfl) (by kernel_rfl) (by kernel_rfl) (fun _ _ _ h => h) (Or.inl ⟨by rfl, ?_⟩) (by assumption) ?_
                    rotate_left
                    · (intro w hSw; (try dsimp only at hSw); go_simp)
                      try with_reducible rfl
                    try simp only [Act.put, List.setIfInBounds_toArray, List.set_cons_zero, List.set_cons_succ]
                    refine wpAnyH_take (i := 27) (oi := ⟨_, _, _, _, _, _⟩) (v := ?_) rfl (by kernel_rfl) (by kernel_rfl) (by kernel_rfl) (fun _ _ _ h => h) (Or.inl ⟨by rfl, ?_⟩) (by assumption) ?_
                    rotate_left
                    · (intro w hSw; (try dsimp only at hSw); go_simp)
                      try with_reducible rfl
                    try simp only [Act.put, List.setIfInBounds_toArray, List.set_cons_zero, List.set_cons_succ]
                    refine wpAnyH_take (i := 28) (oi := ⟨_, _, _, _, _, _⟩) (v := undef) rfl (by kernel_rfl) (by kernel_rfl) (by kernel_rfl) (fun _ _ _ h => h) (Or.inr ⟨by rfl, rfl⟩) (by assumption) ?_
                    try simp only [Act.put, List.setIfInBounds_toArray, List.set_cons_zero, List.set_cons_succ]
                    refine wpAnyH_take (i := 29) (oi := ⟨_, _, _, _, _, _⟩) (v := undef) rfl (by kernel_rfl) (by kernel_rfl) (by kernel_rfl) (fun _ _ _ h => h) (Or.inr ⟨by rfl, rfl⟩) (by assumption) ?_
                    try simp only [Act.put, List.setIfInBounds_toArray, List.set_cons_zero, List.set_cons_succ]
                    refine wpAnyH_take (i := 30) (oi := ⟨_, _, _, _, _, _⟩) (v := undef) rfl (by kernel_rfl) (by kernel_rfl) (by kernel_rfl) (fun _ _ _ h => h) (Or.inr ⟨by rfl, rfl⟩) (by assumption) ?_
                    try simp only [Act.put, List.setIfInBounds_toArray, List.set_cons_zero, List.set_cons_succ]
                    refine wpAnyH_take (i := 31) (oi := ⟨_, _, _, _, _, _⟩) (v := undef) rfl (by kernel_rfl) (by kernel_rfl) (by kernel_rfl) (fun _ _ _ h => h) (Or.inr ⟨by rfl, rfl⟩) (by assumption) ?_
                    try simp only [Act.put, List.setIfInBounds_toArray, List.set_cons_zero, List.set_cons_succ]
                    refine wpAnyH_take (i := 32) (oi := ⟨_, _, _, _, _, _⟩) (v := ?_) rfl (by kernel_rfl) (by kernel_rfl) (by kernel_rfl) (fun _ _ _ h => h) (Or.inl ⟨by rfl, ?_⟩) (by assumption) ?_
                    rotate_left
                    · (intro w hSw; (try dsimp only at hSw); go_simp)
                      try with_reducible rfl
                    try simp only [Act.put, List.setIfInBounds_toArray, List.set_cons_zero, List.set_cons_succ]
                    refine wpAnyH_take (i := 33) (oi := ⟨_, _, _, _, _, _⟩) (v := ?_) rfl (by kernel_rfl) (by kernel_rfl) (by kernel_rfl) (fun _ _ _ h => h) (Or.inl ⟨by rfl, ?_⟩) (by assumption) ?_
                    rotate_left
                    · (intro w hSw; (try dsimp only at hSw); go_simp)
                      try with_reducible rfl
                    try simp only [Act.put, List.setIfInBounds_toArray, List.set_cons_zero, List.set_cons_succ]
                    refine wpAnyH_done (by kernel_rfl) ?_ _
                    have FE := hid ((F5.out.drew).fresh_no HF11.out)
                    clear a0 a1 a2 af z0 z1 zf r0 r1 r2
                    go_wp2_with fail
                    go_roundg ((m2.length + 1 - ((k : Int) + 1)).toNat)
                    case measure => have := HQ2.out; omega
                    case rel => exact ⟨(k : Int) + 1, by go_num, by omega, by omega, rfl, FE⟩
                  all_goals
                    first
                      | (have g1 : decide ((0 : Int) ≤ j) = false := by rw [decide_eq_false_iff_not]; omega
                         have g2 : j < 0 := by omega)
                      | (have g1 : (0 : Int) ≤ j := by omega
                         have g2 : decide (j < (m2.length : Int)) = false := by rw [decide_eq_false_iff_not]; omega)
                    have HJ := hid dj0
                    clear dj0
                    go_wp2_with fail
                    refine (look_c SR.out.n j ((0, 0, []), false) (by unfold lookL; rw [if_neg (by rw [List.length_map]; have := HJ.out; omega)])).mono ?_
                    rintro e w5 ⟨v5, rfl, O, F', G⟩
                    replace O : OwnB 5 w5 v5 [] := O
                    obtain ⟨A5', c5', rfl, hc5'⟩ := O.slice
                    have hF5 := F'.alloc (.cells #[.int .i64 0, .int .i64 0, .slice A5' 0 c5'] 29)
                    have F5 := hid (HF.out.fresh_no hF5)
                    have O5 := hid (O.alloc (.cells #[.int .i64 0, .int .i64 0, .slice A5' 0 c5'] 29))
                    have D5 := hid (Blk.new w5 29 #[.int .i64 0, .int .i64 0, .slice A5' 0 c5'])
                    have B5 := hid (BR.out.keep hF5 (not_no _))
                    clear z0 z1 zf
                    obtain ⟨z0, z1, zf⟩ := B5.out.two
                    obtain ⟨a0, a1, a2, af⟩ := D5.out.three
                    clear O F' G hF5
                    go_wp2_with fail
                    first
                      | (refine wp_region_held_drew (S := (fun w' => w'.cell? ⟨w5.heap.size, 0, none⟩ = some (.int .i64 0) ∧ w'.cell? ⟨w5.heap.size, 1, none⟩ = some (.int .i64 0) ∧ w'.cell? ⟨w5.heap.size, 2, none⟩ = some (.slice A5' 0 c5') ∧ w'.cell? ⟨w2.heap.size, 1, none⟩ = some (.slice A6 m2.length c6'))) (by kernel_rfl) ?_ (fun hHeld => ?_)
                         · (try dsimp only)
                           exact ⟨a0, a1, a2, z1⟩
                         refine wpAnyH_take (i := 0) (oi := ⟨_, _, _, _, _, _⟩) (v := ?_) rfl (by kernel_rfl) (by kernel_rfl) (by kernel_rfl) (fun _ _ _ h => h) (Or.inl ⟨by rfl, ?_⟩) (by assumption) ?_
                         rotate_left
                         · (intro w hSw; (try dsimp only at hSw); go_simp)
                           try with_reducible rfl
                         try simp only [Act.put, List.setIfInBounds_toArray, List.set_cons_zero, List.set_cons_succ]
                         refine wpAnyH_take (i := 1) (oi := ⟨_, _, _, _, _, _⟩) (v := ?_) rfl (by kernel_rfl) (by kernel_rfl) (by kernel_rfl) (fun _ _ _ h => h) (Or.inl ⟨by rfl, ?_⟩) (by assumption) ?_
                         rotate_left
                         · (intro w hSw; (try dsimp only at hSw); go_simp)
                           try with_reducible rfl
                         try simp only [Act.put, List.setIfInBounds_toArray, List.set_cons_zero, List.set_cons_succ]
                         refine wpAnyH_take (i := 2) (oi := ⟨_, _, _, _, _, _⟩) (v := ?_) rfl (by kernel_rfl) (by kernel_rfl) (by kernel_rfl) (fun _ _ _ h => h) (Or.inl ⟨by rfl, ?_⟩) (by assumption) ?_
                         rotate_left
                         · (intro w hSw; (try dsimp only at hSw); go_simp)
                           try with_reducible rfl
                         try simp only [Act.put, List.setIfInBounds_toArray, List.set_cons_zero, List.set_cons_succ]
                         refine wpAnyH_take (i := 3) (oi := ⟨_, _, _, _, _, _⟩) (v := ?_) rfl (by kernel_rfl) (by kernel_rfl) (by kernel_rfl) (fun _ _ _ h => h) (Or.inl ⟨by rfl, ?_⟩) (by assumption) ?_
                         rotate_left
                         · (intro w hSw; (try dsimp only at hSw); go_simp)
                           try with_reducible rfl
                         try simp only [Act.put, List.setIfInBounds_toArray, List.set_cons_zero, List.set_cons_succ]
                         refine wpAnyH_take (i := 4) (oi := ⟨_, _, _, _, _, _⟩) (v := undef) rfl (by kernel_rfl) (by kernel_rfl) (by kernel_rfl) (fun _ _ _ h => h) (Or.inr ⟨by rfl, rfl⟩) (by assumption) ?_
                         try simp only [Act.put, List.setIfInBounds_toArray, List.set_cons_zero, List.set_cons_succ]
                         refine wpAnyH_take (i := 5) (oi := ⟨_, _, _, _, _, _⟩) (v := undef) rfl (by kernel_rfl) (by kernel_rfl) (by kernel_rfl) (fun _ _ _ h => h) (Or.inr ⟨by rfl, rfl⟩) (by assumption) ?_
                         try simp only [Act.put, List.setIfInBounds_toArray, List.set_cons_zero, List.set_cons_succ]
                         refine wpAnyH_take (i := 6) (oi := ⟨_, _, _, _, _, _⟩) (v := undef) rfl (by kernel_rfl) (by kernel_rfl) (by kernel_rfl) (fun _ _ _ h => h) (Or.inr ⟨by rfl, rfl⟩) (by assumption) ?_
                         try simp only [Act.put, List.setIfInBounds_toArray, List.set_cons_zero, List.set_cons_succ]
                         refine wpAnyH_take (i := 7) (oi := ⟨_, _, _, _, _, _⟩) (v := undef) rfl (by kernel_rfl) (by kernel_rfl) (by kernel_rfl) (fun _ _ _ h => h) (Or.inr ⟨by rfl, rfl⟩) (by assumption) ?_
                         try simp only [Act.put, List.setIfInBounds_toArray, List.set_cons_zero, List.set_cons_succ]
                         refine wpAnyH_take (i := 8) (oi := ⟨_, _, _, _, _, _⟩) (v := undef) rfl (by kernel_rfl) (by kernel_rfl) (by kernel_rfl) (fun _ _ _ h => h) (Or.inr ⟨by rfl, rfl⟩) (by assumption) ?_
                         try simp only [Act.put, List.setIfInBounds_toArray, List.set_cons_zero, List.set_cons_succ]
                         refine wpAnyH_take (i := 9) (oi := ⟨_, _, _, _, _, _⟩) (v := ?_) rfl (by kernel_rfl) (by kernel_rfl) (by kernel_rfl) (fun _ _ _ h => h) (Or.inl ⟨by rfl, ?_⟩) (by assumption) ?_
                         rotate_left
                         · (intro w hSw; (try dsimp only at hSw); go_simp)
                           try with_reducible rfl
                         try simp only [Act.put, List.setIfInBounds_toArray, List.set_cons_zero, List.set_cons_succ]
                         refine wpAnyH_take (i := 10) (oi := ⟨_, _, _, _, _, _⟩) (v := ?_) rfl (by kernel_rfl) (by kernel_rfl) (by kernel_rfl) (fun _ _ _ h => h) (Or.inl ⟨by rfl, ?_⟩) (by assumption) ?_
                         rotate_left
                         · (intro w hSw; (try dsimp only at hSw); go_simp)
                           try with_reducible rfl
                         try simp only [Act.put, List.setIfInBounds_toArray, List.set_cons_zero, List.set_cons_succ]
                         refine wpAnyH_take (i := 11) (oi := ⟨_, _, _, _, _, _⟩) (v := ?_) rfl (by kernel_rfl) (by kernel_rfl) (by kernel_rfl) (fun _ _ _ h => h) (Or.inl ⟨by rfl, ?_⟩) (by assumption) ?_
                         rotate_left
                         · (intro w hSw; (try dsimp only at hSw); go_simp)
                           try with_reducible rfl
                         try simp only [Act.put, List.setIfInBounds_toArray, List.set_cons_zero, List.set_cons_succ]
                         refine wpAnyH_take (i := 12) (oi := ⟨_, _, _, _, _, _⟩) (v := ?_) rfl (by kernel_rfl) (by kernel_rfl) (by kernel_rfl) (fun _ _ _ h => h) (Or.inl ⟨by rfl, ?_⟩) (by assumption) ?_
                         rotate_left
                         · (intro w hSw; (try dsimp only at hSw); go_simp)
                           try with_reducible rfl
                         try simp only [Act.put, List.setIfInBounds_toArray, List.set_cons_zero, List.set_cons_succ]
                         refine wpAnyH_take (i := 13) (oi := ⟨_, _, _, _, _, _⟩) (v := ?_) rfl (by kernel_rfl) (by kernel_rfl) (by kernel_rfl) (fun _ _ _ h => h) (Or.inl ⟨by rfl, ?_⟩) (by assumption) ?_
                         rotate_left
                         · (intro w hSw; (try dsimp only at hSw); go_simp)
                           try with_reducible rfl
                         try simp only [Act.put, List.setIfInBounds_toArray, List.set_cons_zero, List.set_cons_succ]
                         refine wpAnyH_take (i := 14) (oi := ⟨_, _, _, _, _, _⟩) (v := undef) rfl (by kernel_rfl) (by kernel_rfl) (by kernel_rfl) (fun _ _ _ h => h) (Or.inr ⟨by rfl, rfl⟩) (by assumption) ?_
                         try simp only [Act.put, List.setIfInBounds_toArray, List.set_cons_zero, List.set_cons_succ]
                         refine wpAnyH_take (i := 15) (oi := ⟨_, _, _, _, _, _⟩) (v := undef) rfl (by kernel_rfl) (by kernel_rfl) (by kernel_rfl) (fun _ _ _ h => h) (Or.inr ⟨by rfl, rfl⟩) (by assumption) ?_
                         try simp only [Act.put, List.setIfInBounds_toArray, List.set_cons_zero, List.set_cons_succ]
                         refine wpAnyH_take (i := 16) (oi := ⟨_, _, _, _, _, _⟩) (v := undef) rfl (by kernel_rfl) (by kernel_rfl) (by kernel_rfl) (fun _ _ _ h => h) (Or.inr ⟨by rfl, rfl⟩) (by assumption) ?_
                         try simp only [Act.put, List.setIfInBounds_toArray, List.set_cons_zero, List.set_cons_succ]
                         refine wpAnyH_take (i := 17) (oi := ⟨_, _, _, _, _, _⟩) (v := undef) rfl (by kernel_rfl) (by kernel_rfl) (by kernel_rfl) (fun _ _ _ h => h) (Or.inr ⟨by rfl, rfl⟩) (by assumption) ?_
                         try simp only [Act.put, List.setIfInBounds_toArray, List.set_cons_zero, List.set_cons_succ]
                         refine wpAnyH_take (i := 18) (oi := ⟨_, _, _, _, _, _⟩) (v := undef) rfl (by kernel_rfl) (by kernel_rfl) (by kernel_rfl) (fun _ _ _ h => h) (Or.inr ⟨by rfl, rfl⟩) (by assumption) ?_
                         try simp only [Act.put, List.setIfInBounds_toArray, List.set_cons_zero, List.set_cons_succ]
                         refine wpAnyH_take (i := 19) (oi := ⟨_, _, _, _, _, _⟩) (v := undef) rfl (by kernel_rfl) (by kernel_rfl) (by kernel_rfl) (fun _ _ _ h => h) (Or.inr ⟨by rfl, rfl⟩) (by assumption) ?_
                         try simp only [Act.put, List.setIfInBounds_toArray, List.set_cons_zero, List.set_cons_succ]
                         refine wpAnyH_take (i := 20) (oi := ⟨_, _, _, _, _, _⟩) (v := undef) rfl (by kernel_rfl) (by kernel_rfl) (by kernel_rfl) (fun _ _ _ h => h) (Or.inr ⟨by rfl, rfl⟩) (by assumption) ?_
                         try simp only [Act.put, List.setIfInBounds_toArray, List.set_cons_zero, List.set_cons_succ]
                         refine wpAnyH_take (i := 21) (oi := ⟨_, _, _, _, _, _⟩) (v := undef) rfl (by kernel_rfl) (by kernel_rfl) (by kernel_rfl) (fun _ _ _ h => h) (Or.inr ⟨by rfl, rfl⟩) (by assumption) ?_
                         try simp only [Act.put, List.setIfInBounds_toArray, List.set_cons_zero, List.set_cons_succ]
                         refine wpAnyH_take (i := 22) (oi := ⟨_, _, _, _, _, _⟩) (v := ?_) rfl (by kernel_rfl) (by kernel_rfl) (by kernel_rfl) (fun _ _ _ h => h) (Or.inl ⟨by rfl, ?_⟩) (by assumption) ?_
                         rotate_left
                         · (intro w hSw; (try dsimp only at hSw); go_simp)
                           try with_reducible rfl
                         try simp only [Act.put, List.setIfInBounds_toArray, List.set_cons_zero, List.set_cons_succ]
                         refine wpAnyH_take (i := 23) (oi := ⟨_, _, _, _, _, _⟩) (v := ?_) rfl (by kernel_rfl) (by kernel_rfl) (by kernel_rfl) (fun _ _ _ h => h) (Or.inl ⟨by rfl, ?_⟩) (by assumption) ?_
                         rotate_left
                         · (intro w hSw; (try dsimp only at hSw); go_simp)
                           try with_reducible rfl
                         try simp only [Act.put, List.setIfInBounds_toArray, List.set_cons_zero, List.set_cons_succ]
                         refine wpAnyH_take (i := 24) (oi := ⟨_, _, _, _, _, _⟩) (v := ?_) rfl (by kernel_rfl) (by kernel_rfl) (by kernel_rfl) (fun _ _ _ h => h) (Or.inl ⟨by rfl, ?_⟩) (by assumption) ?_
                         rotate_left
                         · (intro w hSw; (try dsimp only at hSw); go_simp)
                           try with_reducible rfl
                         try simp only [Act.put, List.setIfInBounds_toArray, List.set_cons_zero, List.set_cons_succ]
                         refine wpAnyH_take (i := 25) (oi := ⟨_, _, _, _, _, _⟩) (v := ?_) rfl (by kernel_rfl) (by kernel_rfl) (by kernel_rfl) (fun _ _ _ h => h) (Or.inl ⟨by rfl, ?_⟩) (by assumption) ?_
                         rotate_left
                         · (intro w hSw; (try dsimp only at hSw); go_simp)
                           try with_reducible rfl
                         try simp only [Act.put, List.setIfInBounds_toArray, List.set_cons_zero, List.set_cons_succ]
                         refine wpAnyH_take (i := 26) (oi := ⟨_, _, _, _, _, _⟩) (v := ?_) rfl (by kernel_rfl) (by kernel_rfl) (by kernel_rfl) (fun _ _ _ h => h) (Or.inl ⟨by rfl, ?_⟩) (by assumption) ?_
                         rotate_left
                         · (intro w hSw; (try dsimp only at hSw); go_simp)
                           try with_reducible rfl
                         try simp only [Act.put, List.setIfInBounds_toArray, List.set_cons_zero, List.set_cons_succ]
                         refine wpAnyH_take (i := 27) (oi := ⟨_, _, _, _, _, _⟩) (v := ?_) rfl (by kernel_rfl) (by kernel_rfl) (by kernel_rfl) (fun _ _ _ h => h) (Or.inl ⟨by rfl, ?_⟩) (by assumption) ?_
                         rotate_left
                         · (intro w hSw; (try dsimp only at hSw); go_simp)
                           try with_reducible rfl
                         try simp only [Act.put, List.setIfInBounds_toArray, List.set_cons_zero, List.set_cons_succ]
                         refine wpAnyH_take (i := 28) (oi := ⟨_, _, _, _, _, _⟩) (v := ?_) rfl (by kernel_rfl) (by kernel_rfl) (by kernel_rfl) (fun _ _ _ h => h) (Or.inl ⟨by rfl, ?_⟩) (by assumption) ?_
                         rotate_left
                         · (intro w hSw; (try dsimp only at hSw); go_simp)
                           try with_reducible rfl
                         try simp only [Act.put, List.setIfInBounds_toArray, List.set_cons_zero, List.set_cons_succ]
                         refine wpAnyH_take (i := 29) (oi := ⟨_, _, _, _, _, _⟩) (v := ?_) rfl (by kernel_rfl) (by kernel_rfl) (by kernel_rfl) (fun _ _ _ h => h) (Or.inl ⟨by rfl, ?_⟩) (by assumption) ?_
                         rotate_left
                         · (intro w hSw; (try dsimp only at hSw); go_simp)
                           try with_reducible rfl
                         try simp only [Act.put, List.setIfInBounds_toArray, List.set_cons_zero, List.set_cons_succ]
                         refine wpAnyH_ready (rs := [30]) (by kernel_rfl) (by simp) ?_
                         refine AllReadyH.cons (o := ⟨_, _, _, _, _, _⟩) rfl (fun K hK => ?_) ?_
                         rotate_left
                         · exact AllReadyH.nil
                         go_simp
                         (go_at_call 24; refine (same_g _ 0 0 0 0 _ _ [] [] (O5.out.rd.heap (by rfl)) (RdB.nil _) true (by simp)).mono ?_; rintro e w11 ⟨rfl, F11⟩; have HF11 := hid (show Fr No (w5.alloc (.cells #[.int .i64 0, .int .i64 0, .slice A5' 0 c5'] 29)).drew w11 from F11); clear F11)
                         try go_wp2_with fail
                         refine hK.out _ _ ?_ (fun hHeld => ?_)
                         · (try dsimp only)
                           exact ⟨HF11.out.cs a0, HF11.out.cs a1, HF11.out.cs a2, HF11.out.cs z1⟩
                         clear hK K
                         try simp only [Act.put, List.setIfInBounds_toArray, List.set_cons_zero, List.set_cons_succ]
                         refine wpAnyH_take (i := 31) (oi := ⟨_, _, _, _, _, _⟩) (v := ?_) rfl (by kernel_rfl) (by kernel_rfl) (by kernel_rfl) (fun _ _ _ h => h) (Or.inl ⟨by rfl, ?_⟩) (by assumption) ?_
                         rotate_left
                         · (intro w hSw; (try dsimp only at hSw); go_simp)
                           try with_reducible rfl
                         try simp only [Act.put, List.setIfInBounds_toArray, List.set_cons_zero, List.set_cons_succ]
                         refine wpAnyH_take (i := 32) (oi := ⟨_, _, _, _, _, _⟩) (v := ?_) rfl (by kernel_rfl) (by kernel_rfl) (by kernel_rfl) (fun _ _ _ h => h) (Or.inl ⟨by rfl, ?_⟩) (by assumption) ?_
                         rotate_left
                         · (intro w hSw; (try dsimp only at hSw); go_simp)
                           try with_reducible rfl
                         try simp only [Act.put, List.setIfInBounds_toArray, List.set_cons_zero, List.set_cons_succ]
                         refine wpAnyH_take (i := 33) (oi := ⟨_, _, _, _, _, _⟩) (v := ?_) rfl (by kernel_rfl) (by kernel_rfl) (by kernel_rfl) (fun _ _ _ h => h) (Or.inl ⟨by rfl, ?_⟩) (by assumption) ?_
                         rotate_left
                         · (intro w hSw; (try dsimp only at hSw); go_simp)
                           try with_reducible rfl
                         try simp only [Act.put, List.setIfInBounds_toArray, List.set_cons_zero, List.set_cons_succ]
                         refine wpAnyH_done (by kernel_rfl) ?_ _)
                      | (refine wp_region_held_drew (S := (fun w' => w'.cell? ⟨w5.heap.size, 0, none⟩ = some (.int .i64 0) ∧ w'.cell? ⟨w5.heap.size, 1, none⟩ = some (.int .i64 0) ∧ w'.cell? ⟨w5.heap.size, 2, none⟩ = some (.slice A5' 0 c5') ∧ w'.cell? ⟨w2.heap.size, 1, none⟩ = some (.slice A6 m2.length c6'))) (by kernel_rfl) ?_ (fun hHeld => ?_)
                         · (try dsimp only)
                           exact ⟨a0, a1, a2, z1⟩
                         refine wpAnyH_take (i := 0) (oi := ⟨_, _, _, _, _, _⟩) (v := ?_) rfl (by kernel_rfl) (by kernel_rfl) (by kernel_rfl) (fun _ _ _ h => h) (Or.inl ⟨by rfl, ?_⟩) (by assumption) ?_
                         rotate_left
                         · (intro w hSw; (try dsimp only at hSw); go_simp)
                           try with_reducible rfl
                         try simp only [Act.put, List.setIfInBounds_toArray, List.set_cons_zero, List.set_cons_succ]
                         refine wpAnyH_take (i := 1) (oi := ⟨_, _, _, _, _, _⟩) (v := ?_) rfl (by kernel_rfl) (by kernel_rfl) (by kernel_rfl) (fun _ _ _ h => h) (Or.inl ⟨by rfl, ?_⟩) (by assumption) ?_
                         rotate_left
                         · (intro w hSw; (try dsimp only at hSw); go_simp)
                           try with_reducible rfl
                         try simp only [Act.put, List.setIfInBounds_toArray, List.set_cons_zero, List.set_cons_succ]
                         refine wpAnyH_take (i := 2) (oi := ⟨_, _, _, _, _, _⟩) (v := ?_) rfl (by kernel_rfl) (by kernel_rfl) (by kernel_rfl) (fun _ _ _ h => h) (Or.inl ⟨by rfl, ?_⟩) (by assumption) ?_
                         rotate_left
                         · (intro w hSw; (try dsimp only at hSw); go_simp)
                           try with_reducible rfl
                         try simp only [Act.put, List.setIfInBounds_toArray, List.set_cons_zero, List.set_cons_succ]
                         refine wpAnyH_take (i := 3) (oi := ⟨_, _, _, _, _, _⟩) (v := ?_) rfl (by kernel_rfl) (by kernel_rfl) (by kernel_rfl) (fun _ _ _ h => h) (Or.inl ⟨by rfl, ?_⟩) (by assumption) ?_
                         rotate_left
                         · (intro w hSw; (try dsimp only at hSw); go_simp)
                           try with_reducible rfl
                         try simp only [Act.put, List.setIfInBounds_toArray, List.set_cons_zero, List.set_cons_succ]
                         refine wpAnyH_take (i := 4) (oi := ⟨_, _, _, _, _, _⟩) (v := ?_) rfl (by kernel_rfl) (by kernel_rfl) (by kernel_rfl) (fun _ _ _ h => h) (Or.inl ⟨by rfl, ?_⟩) (by assumption) ?_
                         rotate_left
                         · (intro w hSw; (try dsimp only at hSw); go_simp)
                           try with_reducible rfl
                         try simp only [Act.put, List.setIfInBounds_toArray, List.set_cons_zero, List.set_cons_succ]
                         refine wpAnyH_take (i := 5) (oi := ⟨_, _, _, _, _, _⟩) (v := ?_) rfl (by kernel_rfl) (by kernel_rfl) (by kernel_rfl) (fun _ _ _ h => h) (Or.inl ⟨by rfl, ?_⟩) (by assumption) ?_
                         rotate_left
                         · (intro w hSw; (try dsimp only at hSw); go_simp)
                           try with_reducible rfl
                         try simp only [Act.put, List.setIfInBounds_toArray, List.set_cons_zero, List.set_cons_succ]
                         refine wpAnyH_take (i := 6) (oi := ⟨_, _, _, _, _, _⟩) (v := ?_) rfl (by kernel_rfl) (by kernel_rfl) (by kernel_rfl) (fun _ _ _ h => h) (Or.inl ⟨by rfl, ?_⟩) (by assumption) ?_
                         rotate_left
                         · (intro w hSw; (try dsimp only at hSw); go_simp)
                           try with_reducible rfl
                         try simp only [Act.put, List.setIfInBounds_toArray, List.set_cons_zero, List.set_cons_succ]
                         refine wpAnyH_take (i := 7) (oi := ⟨_, _, _, _, _, _⟩) (v := ?_) rfl (by kernel_rfl) (by kernel_rfl) (by kernel_rfl) (fun _ _ _ h => h) (Or.inl ⟨by rfl, ?_⟩) (by assumption) ?_
                         rotate_left
                         · (intro w hSw; (try dsimp only at hSw); go_simp)
                           try with_reducible rfl
                         try simp only [Act.put, List.setIfInBounds_toArray, List.set_cons_zero, List.set_cons_succ]
                         refine wpAnyH_take (i := 8) (oi := ⟨_, _, _, _, _, _⟩) (v := ?_) rfl (by kernel_rfl) (by kernel_rfl) (by kernel_rfl) (fun _ _ _ h => h) (Or.inl ⟨by rfl, ?_⟩) (by assumption) ?_
                         rotate_left
                         · (intro w hSw; (try dsimp only at hSw); go_simp)
                           try with_reducible rfl
                         try simp only [Act.put, List.setIfInBounds_toArray, List.set_cons_zero, List.set_cons_succ]
                         refine wpAnyH_take (i := 9) (oi := ⟨_, _, _, _, _, _⟩) (v := ?_) rfl (by kernel_rfl) (by kernel_rfl) (by kernel_rfl) (fun _ _ _ h => h) (Or.inl ⟨by rfl, ?_⟩) (by assumption) ?_
                         rotate_left
                         · (intro w hSw; (try dsimp only at hSw); go_simp)
                           try with_reducible rfl
                         try simp only [Act.put, List.setIfInBounds_toArray, List.set_cons_zero, List.set_cons_succ]
                         refine wpAnyH_take (i := 10) (oi := ⟨_, _, _, _, _, _⟩) (v := ?_) rfl (by kernel_rfl) (by kernel_rfl) (by kernel_rfl) (fun _ _ _ h => h) (Or.inl ⟨by rfl, ?_⟩) (by assumption) ?_
                         rotate_left
                         · (intro w hSw; (try dsimp only at hSw); go_simp)
                           try with_reducible rfl
                         try simp only [Act.put, List.setIfInBounds_toArray, List.set_cons_zero, List.set_cons_succ]
                         refine wpAnyH_take (i := 11) (oi := ⟨_, _, _, _, _, _⟩) (v := ?_) rfl (by kernel_rfl) (by kernel_rfl) (by kernel_rfl) (fun _ _ _ h => h) (Or.inl ⟨by rfl, ?_⟩) (by assumption) ?_
                         rotate_left
                         · (intro w hSw; (try dsimp only at hSw); go_simp)
                           try with_reducible rfl
                         try simp only [Act.put, List.setIfInBounds_toArray, List.set_cons_zero, List.set_cons_succ]
                         refine wpAnyH_take (i := 12) (oi := ⟨_, _, _, _, _, _⟩) (v := ?_) rfl (by kernel_rfl) (by kernel_rfl) (by kernel_rfl) (fun _ _ _ h => h) (Or.inl ⟨by rfl, ?_⟩) (by assumption) ?_
                         rotate_left
                         · (intro w hSw; (try dsimp only at hSw); go_simp)
                           try with_reducible rfl
                         try simp only [Act.put, List.setIfInBounds_toArray, List.set_cons_zero, List.set_cons_succ]
                         refine wpAnyH_take (i := 13) (oi := ⟨_, _, _, _, _, _⟩) (v := ?_) rfl (by kernel_rfl) (by kernel_rfl) (by kernel_rfl) (fun _ _ _ h => h) (Or.inl ⟨by rfl, ?_⟩) (by assumption) ?_
                         rotate_left
                         · (intro w hSw; (try dsimp only at hSw); go_simp)
                           try with_reducible rfl
                         try simp only [Act.put, List.setIfInBounds_toArray, List.set_cons_zero, List.set_cons_succ]
                         refine wpAnyH_take (i := 14) (oi := ⟨_, _, _, _, _, _⟩) (v := undef) rfl (by kernel_rfl) (by kernel_rfl) (by kernel_rfl) (fun _ _ _ h => h) (Or.inr ⟨by rfl, rfl⟩) (by assumption) ?_
                         try simp only [Act.put, List.setIfInBounds_toArray, List.set_cons_zero, List.set_cons_succ]
                         refine wpAnyH_take (i := 15) (oi := ⟨_, _, _, _, _, _⟩) (v := undef) rfl (by kernel_rfl) (by kernel_rfl) (by kernel_rfl) (fun _ _ _ h => h) (Or.inr ⟨by rfl, rfl⟩) (by assumption) ?_
                         try simp only [Act.put, List.setIfInBounds_toArray, List.set_cons_zero, List.set_cons_succ]
                         refine wpAnyH_take (i := 16) (oi := ⟨_, _, _, _, _, _⟩) (v := undef) rfl (by kernel_rfl) (by kernel_rfl) (by kernel_rfl) (fun _ _ _ h => h) (Or.inr ⟨by rfl, rfl⟩) (by assumption) ?_
                         try simp only [Act.put, List.setIfInBounds_toArray, List.set_cons_zero, List.set_cons_succ]
                         refine wpAnyH_take (i := 17) (oi := ⟨_, _, _, _, _, _⟩) (v := undef) rfl (by kernel_rfl) (by kernel_rfl) (by kernel_rfl) (fun _ _ _ h => h) (Or.inr ⟨by rfl, rfl⟩) (by assumption) ?_
                         try simp only [Act.put, List.setIfInBounds_toArray, List.set_cons_zero, List.set_cons_succ]
                         refine wpAnyH_take (i := 18) (oi := ⟨_, _, _, _, _, _⟩) (v := undef) rfl (by kernel_rfl) (by kernel_rfl) (by kernel_rfl) (fun _ _ _ h => h) (Or.inr ⟨by rfl, rfl⟩) (by assumption) ?_
                         try simp only [Act.put, List.setIfInBounds_toArray, List.set_cons_zero, List.set_cons_succ]
                         refine wpAnyH_take (i := 19) (oi := ⟨_, _, _, _, _, _⟩) (v := undef) rfl (by kernel_rfl) (by kernel_rfl) (by kernel_rfl) (fun _ _ _ h => h) (Or.inr ⟨by rfl, rfl⟩) (by assumption) ?_
                         try simp only [Act.put, List.setIfInBounds_toArray, List.set_cons_zero, List.set_cons_succ]
                         refine wpAnyH_take (i := 20) (oi := ⟨_, _, _, _, _, _⟩) (v := undef) rfl (by kernel_rfl) (by kernel_rfl) (by kernel_rfl) (fun _ _ _ h => h) (Or.inr ⟨by rfl, rfl⟩) (by assumption) ?_
                         try simp only [Act.put, List.setIfInBounds_toArray, List.set_cons_zero, List.set_cons_succ]
                         refine wpAnyH_take (i := 21) (oi := ⟨_, _, _, _, _, _⟩) (v := undef) rfl (by kernel_rfl) (by kernel_rfl) (by kernel_rfl) (fun _ _ _ h => h) (Or.inr ⟨by rfl, rfl⟩) (by assumption) ?_
                         try simp only [Act.put, List.setIfInBounds_toArray, List.set_cons_zero, List.set_cons_succ]
                         refine wpAnyH_take (i := 22) (oi := ⟨_, _, _, _, _, _⟩) (v := ?_) rfl (by kernel_rfl) (by kernel_rfl) (by kernel_rfl) (fun _ _ _ h => h) (Or.inl ⟨by rfl, ?_⟩) (by assumption) ?_
                         rotate_left
                         · (intro w hSw; (try dsimp only at hSw); go_simp)
                           try with_reducible rfl
                         try simp only [Act.put, List.setIfInBounds_toArray, List.set_cons_zero, List.set_cons_succ]
                         refine wpAnyH_take (i := 23) (oi := ⟨_, _, _, _, _, _⟩) (v := ?_) rfl (by kernel_rfl) (by kernel_rfl) (by kernel_rfl) (fun _ _ _ h => h) (Or.inl ⟨by rfl, ?_⟩) (by assumption) ?_
                         rotate_left
                         · (intro w hSw; (try dsimp only at hSw); go_simp)
                           try with_reducible rfl
                         try simp only [Act.put, List.setIfInBounds_toArray, List.set_cons_zero, List.set_cons_succ]
                         refine wpAnyH_take (i := 24) (oi := ⟨_, _, _, _, _, _⟩) (v := ?_) rfl (by kernel_rfl) (by kernel_rfl) (by kernel_rfl) (fun _ _ _ h => h) (Or.inl ⟨by rfl, ?_⟩) (by assumption) ?_
                         rotate_left
                         · (intro w hSw; (try dsimp only at hSw); go_simp)
                           try with_reducible rfl
                         try simp only [Act.put, List.setIfInBounds_toArray, List.set_cons_zero, List.set_cons_succ]
                         refine wpAnyH_take (i := 25) (oi := ⟨_, _, _, _, _, _⟩) (v := ?_) rfl (by kernel_rfl) (by kernel_rfl) (by kernel_rfl) (fun _ _ _ h => h) (Or.inl ⟨by rfl, ?_⟩) (by assumption) ?_
                         rotate_left
                         · (intro w hSw; (try dsimp only at hSw); go_simp)
                           try with_reducible rfl
                         try simp only [Act.put, List.setIfInBounds_toArray, List.set_cons_zero, List.set_cons_succ]
                         refine wpAnyH_take (i := 26) (oi := ⟨_, _, _, _, _, _⟩) (v := ?_) rfl (by kernel_rfl) (by kernel_rfl) (by kernel_rfl) (fun _ _ _ h => h) (Or.inl ⟨by rfl, ?_⟩) (by assumption) ?_
                         rotate_left
                         · (intro w hSw; (try dsimp only at hSw); go_simp)
                           try with_reducible rfl
                         try simp only [Act.put, List.setIfInBounds_toArray, List.set_cons_zero, List.set_cons_succ]
                         refine wpAnyH_take (i := 27) (oi := ⟨_, _, _, _, _, _⟩) (v := ?_) rfl (by kernel_rfl) (by kernel_rfl) (by kernel_rfl) (fun _ _ _ h => h) (Or.inl ⟨by rfl, ?_⟩) (by assumption) ?_
                         rotate_left
                         · (intro w hSw; (try dsimp only at hSw); go_simp)
                           try with_reducible rfl
                         try simp only [Act.put, List.setIfInBounds_toArray, List.set_cons_zero, List.set_cons_succ]
                         refine wpAnyH_take (i := 28) (oi := ⟨_, _, _, _, _, _⟩) (v := ?_) rfl (by kernel_rfl) (by kernel_rfl) (by kernel_rfl) (fun _ _ _ h => h) (Or.inl ⟨by rfl, ?_⟩) (by assumption) ?_
                         rotate_left
                         · (intro w hSw; (try dsimp only at hSw); go_simp)
                           try with_reducible rfl
                         try simp only [Act.put, List.setIfInBounds_toArray, List.set_cons_zero, List.set_cons_succ]
                         refine wpAnyH_take (i := 29) (oi := ⟨_, _, _, _, _, _⟩) (v := ?_) rfl (by kernel_rfl) (by kernel_rfl) (by kernel_rfl) (fun _ _ _ h => h) (Or.inl ⟨by rfl, ?_⟩) (by assumption) ?_
                         rotate_left
                         · (intro w hSw; (try dsimp only at hSw); go_simp)
                           try with_reducible rfl
                         try simp only [Act.put, List.setIfInBounds_toArray, List.set_cons_zero, List.set_cons_succ]
                         refine wpAnyH_ready (rs := [30]) (by kernel_rfl) (by simp) ?_
                         refine AllReadyH.cons (o := ⟨_, _, _, _, _, _⟩) rfl (fun K hK => ?_) ?_
                         rotate_left
                         · exact AllReadyH.nil
                         go_simp
                         (go_at_call 24; refine (same_g _ 0 0 0 0 _ _ [] [] (O5.out.rd.heap (by rfl)) (RdB.nil _) true (by simp)).mono ?_; rintro e w11 ⟨rfl, F11⟩; have HF11 := hid (show Fr No (w5.alloc (.cells #[.int .i64 0, .int .i64 0, .slice A5' 0 c5'] 29)).drew w11 from F11); clear F11)
                         try go_wp2_with fail
                         refine hK.out _ _ ?_ (fun hHeld => ?_)
                         · (try dsimp only)
                           exact ⟨HF11.out.cs a0, HF11.out.cs a1, HF11.out.cs a2, HF11.out.cs z1⟩
                         clear hK K
                         try simp only [Act.put, List.setIfInBounds_toArray, List.set_cons_zero, List.set_cons_succ]
                         refine wpAnyH_take (i := 31) (oi := ⟨_, _, _, _, _, _⟩) (v := ?_) rfl (by kernel_rfl) (by kernel_rfl) (by kernel_rfl) (fun _ _ _ h => h) (Or.inl ⟨by rfl, ?_⟩) (by assumption) ?_
                         rotate_left
                         · (intro w hSw; (try dsimp only at hSw); go_simp)
                           try with_reducible rfl
                         try simp only [Act.put, List.setIfInBounds_toArray, List.set_cons_zero, List.set_cons_succ]
                         refine wpAnyH_take (i := 32) (oi := ⟨_, _, _, _, _, _⟩) (v := ?_) rfl (by kernel_rfl) (by kernel_rfl) (by kernel_rfl) (fun _ _ _ h => h) (Or.inl ⟨by rfl, ?_⟩) (by assumption) ?_
                         rotate_left
                         · (intro w hSw; (try dsimp only at hSw); go_simp)
                           try with_reducible rfl
                         try simp only [Act.put, List.setIfInBounds_toArray, List.set_cons_zero, List.set_cons_succ]
                         refine wpAnyH_take (i := 33) (oi := ⟨_, _, _, _, _, _⟩) (v := ?_) rfl (by kernel_rfl) (by kernel_rfl) (by kernel_rfl) (fun _ _ _ h => h) (Or.inl ⟨by rfl, ?_⟩) (by assumption) ?_
                         rotate_left
                         · (intro w hSw; (try dsimp only at hSw); go_simp)
                           try with_reducible rfl
                         try simp only [Act.put, List.setIfInBounds_toArray, List.set_cons_zero, List.set_cons_succ]
                         refine wpAnyH_done (by kernel_rfl) ?_ _)
                      | fail
                    have FE := hid ((F5.out.drew).fresh_no HF11.out)
                    clear a0 a1 a2 af z0 z1 zf
                    go_wp2_with fail
                    go_roundg ((m2.length + 1 - (j + 1)).toNat)
                    case measure => have := HQ2.out; have := HJ.out; omega
                    case rel => exact ⟨j + 1, by go_num, by omega, by have := HJ.out; omega, rfl, FE⟩
                · have dj2 : (m2.length : Int) < j := by omega
                  have HM2' := hid hm81
                  clear hm81
                  go_wp2_with fail
                  go_roundg (80 - (i + 1))
                  case measure => have := HQ.out; omega
                  case rel => exact ⟨i + 1, F2, _, m2, by go_num, by omega, rfl, HM2, SR, LR, BR, NF2⟩
        · have c6 : 200 < (ys.length : Int) := by omega
          have hF7 : Fr No wr (wr.alloc (.cells #[.int .i64 kind, .int .i64 a, .int .i64 z, .int .i64 ix, .slice A' ys.length c'] 44)) := (Fr.refl No wr).alloc _
          have S7 := hid (HS.out.keep hF7)
          have L7 := hid (HL.out.keep hF7)
          have D7 := hid (HB.out.keep hF7 (not_no _))
          clear hin b0 b1 b2 b3 hz hF7
          go_wp2_with fail
          go_roundg (80 - (i + 1))
          case measure => have := HQ.out; omega
          case rel => exact ⟨i + 1, F, _, m, by go_num, by omega, rfl, by have := HM.out; unfold Hid; omega, S7, L7, D7, HNF⟩
      · have hend : ((i : Int) < os.length ∧ ¬ (i : Int) < 80) ∨ ¬ (i : Int) < os.length := by omega
        have hm80 := HM.out
        clear d1
        rcases hend with ⟨he1, he2⟩ | he1
        all_goals
          go_wp2_with fail
          refine (awake_c _).mono ?_
          rintro e w8 ⟨rfl, B⟩
          have F8 := hid (HS.out.fr.fresh_no B)
          clear B
          go_wp2_with fail
          go_ret
          exact ⟨rfl, F8.out⟩
  · have hbad : nodes < 1 ∨ nodes > 16 := by omega
    clear hn
    go_enter Try.func4, Try.ntmps4
    go_wp2_with fail
    refine (new_bad nodes hbad _).mono ?_
    rintro e wx ⟨rfl, rfl⟩
    go_wp2_with fail
    refine (rnew_bad nodes hbad _).mono ?_
    rintro e w2 ⟨rfl, F2⟩
    have F3 := hid (F2.alloc (.cells #[.int .i64 0, .slice none 0 0] 40))
    clear F2
    unfold refV
    go_wp2_with fail
    refine (awake_c _).mono ?_
    rintro e w8 ⟨rfl, B⟩
    have F8 := hid (F3.out.fresh_no B)
    clear B
    go_wp2_with fail
    go_ret
    exact ⟨rfl, F8.out⟩
end Go.Proofs.Ytjgcibjodiefkaa
