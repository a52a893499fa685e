import Derived.Test.YtfbhcapcnkcfdaaLogR
/-! The contracts of the document's log: Open. -/
namespace Go.Proofs.Ytfbhcapcnkcfdaa
open Go.RowKit
set_option linter.unusedVariables false
set_option linter.unusedSimpArgs false

/-- the document's log, as a value -/
def logV (l : LSt) : Value := .agg #[.int .i64 l.n, .int .i64 l.bytes, .bool l.over]
theorem three_new (w : World) (t t2 : TypeId) (cs cs' cs2 : Array Value) : Blk (((w.alloc (.cells cs t)).alloc (.cells cs' t)).alloc (.cells cs2 t2)) w.heap.size t cs ∧ Blk (((w.alloc (.cells cs t)).alloc (.cells cs' t)).alloc (.cells cs2 t2)) (w.heap.size + 1) t cs' ∧ Blk (((w.alloc (.cells cs t)).alloc (.cells cs' t)).alloc (.cells cs2 t2)) (w.heap.size + 1 + 1) t2 cs2 ∧ Fr No w (((w.alloc (.cells cs t)).alloc (.cells cs' t)).alloc (.cells cs2 t2)) := by
  obtain ⟨h1, h2, h3⟩ := two_new w t cs cs'
  refine ⟨h1.alloc _, h2.alloc _, ?_, h3.alloc _⟩
  have h := Blk.new ((w.alloc (.cells cs t)).alloc (.cells cs' t)) t2 cs2
  rwa [show ((w.alloc (.cells cs t)).alloc (.cells cs' t)).heap.size = w.heap.size + 1 + 1 by simp] at h
theorem Blk.threes {w : World} {g : Nat} {t : TypeId} {a b c : Value} (h : Blk w g t #[a, b, c]) : w.cell? ⟨g, 0, none⟩ = some a ∧ w.cell? ⟨g, 1, none⟩ = some b ∧ w.cell? ⟨g, 2, none⟩ = some c ∧ ∀ i, w.frozen? ⟨g, i, none⟩ = false := ⟨h.cell 0, h.cell 1, h.cell 2, h.frozen⟩
/-- a list of the law's own stays where blocks of the boxes' types are written -/
theorem OwnL.boxes {w w' : World} {base : Nat} {v : Value} {ps : List (Value × List UInt8)} (h : OwnL w base v ps) {S : Nat → Prop} (hf : Fr S w w') (hS : ∀ k, S k → ∃ t cs, Blk w k t cs ∧ 22 ≠ t ∧ 5 ≠ t) : OwnL w' base v ps :=
  h.keep hf (fun k hk hs => by obtain ⟨t, cs, hb, h1, _⟩ := hS k hs; exact h.row.ne_ hb h1 hk) (fun p hp k hk hs => by obtain ⟨t, cs, hb, _, h2⟩ := hS k hs; exact (h.data p hp).ne_ hb h2 hk)

theorem OwnL.low {w : World} {base b : Nat} {v : Value} {ps : List (Value × List UInt8)} (h : OwnL w base v ps) (hb : b ≤ base) : OwnL w b v ps :=
  ⟨h.row, fun k hk => Nat.le_trans hb (h.new k hk), h.data, fun p hp k hk => Nat.le_trans hb (h.far p hp k hk)⟩
/-- the disk then, the log, the records, the error -/
def RetOpenR (w : World) (u : Value) (d : DSt) (r : DSt × List (List UInt8) × Nat) : Ending → World → Prop := fun e w' => ∃ u' vo ps, e = .returned (.tuple #[refV r.1 u', logV (logOf r.2.1), vo, .int .i64 r.2.2]) ∧ RdB w' u' r.1.bytes ∧ Fr No w w' ∧ ((u' = u ∧ r.1.bytes = d.bytes) ∨ Grows w No u') ∧ OwnL w' w.heap.size vo ps ∧ ps.map (·.2) = r.2.1

set_option maxRecDepth 100000 in
set_option maxHeartbeats 4000000 in
theorem open_ref (w : World) (d : DSt) (u : Value) (hu : RdB w u d.bytes) (h1 : -1 ≤ d.arm) (h2 : d.arm ≤ 9223372036854775807) (hl : d.bytes.length ≤ 67108864) (r : DSt × List (List UInt8) × Nat) (hr : openD d = r) :
    Calls Try.prog 27 #[refV d u] w (RetOpenR w u d r) := by
  obtain ⟨A, c, rfl, hc⟩ := hu.slice
  obtain ⟨most, bytes, synced, arm, down⟩ := d
  have HU := hid (show RdB w (.slice A bytes.length c) bytes from hu)
  replace hc : bytes.length ≤ c := hc
  replace h1 : -1 ≤ arm := h1
  replace h2 : arm ≤ 9223372036854775807 := h2
  replace hl : bytes.length ≤ 67108864 := hl
  clear hu
  unfold refV
  show Calls _ _ #[.agg #[.int .i64 most, .slice A bytes.length c, .int .i64 synced, .int .i64 arm, .bool down]] w _
  have HR := hid hr
  clear hr
  cases down
  · obtain ⟨N, hN⟩ : ∃ N, (recsB (wholeL bytes)).length = N := ⟨_, rfl⟩
    have hlt : (recsB (wholeL bytes)).length ≤ bytes.length := wholeL_size _ _ (Nat.le_refl _)
    rw [hN] at hlt
    have HN := hid hN
    have hop : openD ⟨most, bytes, synced, arm, false⟩ = if N < bytes.length then (if (cutD ⟨most, bytes, synced, arm, false⟩ N).2 = 0 then ((cutD ⟨most, bytes, synced, arm, false⟩ N).1, wholeL bytes, 0) else ((cutD ⟨most, bytes, synced, arm, false⟩ N).1, [], (cutD ⟨most, bytes, synced, arm, false⟩ N).2)) else (⟨most, bytes, synced, arm, false⟩, wholeL bytes, 0) := by
      unfold openD
      rw [if_neg nf]
      dsimp only
      rw [hN]
    clear hN
    by_cases cl : N < bytes.length
    · have cl2 : (N : Int) < bytes.length := by omega
      rw [if_pos cl] at hop
      obtain ⟨⟨q1, q2⟩, hq⟩ : ∃ q, cutD ⟨most, bytes, synced, arm, false⟩ (N : Int) = q := ⟨_, rfl⟩
      rw [hq] at hop
      have HQ := hid hq
      have HOP := hid hop
      clear hop hq
      obtain ⟨B1, B2, B3, F0⟩ := three_new w 49 53 #[.int .i64 most, .slice A bytes.length c, .int .i64 synced, .int .i64 arm, .bool false] #[.int .i64 0, .slice none 0 0, .int .i64 0, .int .i64 0, .bool false] #[.int .i64 0, .int .i64 0, .bool false]
      have HB1 := hid B1
      have HB2 := hid B2
      have HB3 := hid B3
      have HF0 := hid F0
      clear B1 B2 B3 F0
      go_enter Try.func27, Try.ntmps27
      go_wp2_with fail
      refine (whole_ref _ bytes _ (HU.out.too HF0.out) hl).mono ?_
      rintro e w1 ⟨vo, ps, rfl, O1, hps, F1⟩
      have C1 := hid (HB1.out.keep F1 (not_no _))
      have C2 := hid (HB2.out.keep F1 (not_no _))
      have C3 := hid (HB3.out.keep F1 (not_no _))
      have HF1 := hid (HF0.out.fresh_no F1)
      have HO1 := hid (O1.low (b := w.heap.size) HF0.out.size)
      have HPS := hid hps
      obtain ⟨Ao, co, rfl, hco⟩ := O1.rds.1.slice_
      have hpl : ps.length = (wholeL bytes).length := by rw [← hps]; simp
      have HPL := hid hpl
      obtain ⟨a0, a1, a2, a3, a4, af⟩ := C1.out.five
      obtain ⟨b0, b1, b2, b3, b4, bf⟩ := C2.out.five
      obtain ⟨e0, e1, e2, ef⟩ := C3.out.threes
      clear O1 hps F1 hpl
      have HWS := hid (show w.heap.size ≤ (((w.alloc (.cells #[.int .i64 most, .slice A bytes.length c, .int .i64 synced, .int .i64 arm, .bool false] 49)).alloc (.cells #[.int .i64 0, .slice none 0 0, .int .i64 0, .int .i64 0, .bool false] 49)).alloc (.cells #[.int .i64 0, .int .i64 0, .bool false] 53)).heap.size from HF0.out.size)
      rw [HN.out]
      go_wp2_with fail
      refine (cut_ref _ ⟨most, bytes, synced, arm, false⟩ (.slice A bytes.length c) (HU.out.too HF1.out) h1 h2 (by show bytes.length ≤ _; omega) (N : Int) _ HQ.out).mono ?_
      rintro e w2 ⟨u2, rfl, R2, F2, G2⟩
      obtain ⟨A2, c2, rfl, hc2⟩ := R2.slice
      have E1 := hid (C1.out.keep F2 (not_no _))
      have E2 := hid (C2.out.keep F2 (not_no _))
      have E3 := hid (C3.out.keep F2 (not_no _))
      have HF2 := hid (HF1.out.fresh_no F2)
      have HO2 := hid (HO1.out.keep_no F2)
      have HR2 := hid R2
      have HG2 := hid (show (Value.slice A2 q1.bytes.length c2 = .slice A bytes.length c ∧ q1.bytes = bytes) ∨ Grows w No (.slice A2 q1.bytes.length c2) from G2.imp id (fun h q hq => (h q hq).imp id (fun h => Nat.le_trans HF1.out.size h)))
      have HCL := hid (show 0 < q1.bytes.length → ∀ q, Of (.slice A2 q1.bytes.length c2) q → q ≠ w.heap.size ∧ q ≠ w.heap.size + 1 ∧ q ≠ w.heap.size + 1 + 1 from fun h0 q hq => by
        have hs := C3.out.lt
        rcases G2 with ⟨he, hb⟩ | G2
        · rw [he] at hq
          have hb' : q1.bytes = bytes := hb
          have := HU.out.old (by rw [← hb']; exact h0) q hq
          omega
        · rcases G2 q hq with h | h
          · exact absurd h (not_no _)
          · omega)
      clear a0 a1 a2 a3 a4 af b0 b1 b2 b3 b4 bf e0 e1 e2 ef R2 F2 G2 C1 C2 C3
      obtain ⟨a0, a1, a2, a3, a4, af⟩ := E1.out.five
      obtain ⟨b0, b1, b2, b3, b4, bf⟩ := E2.out.five
      obtain ⟨e0, e1, e2, ef⟩ := E3.out.threes
      obtain ⟨m1, y1, s1, r1, dn1⟩ := q1
      unfold refV
      obtain ⟨p0, p1, p2, p3, p4, pf⟩ := (E1.out.alloc (.cells #[.int .i64 m1, .slice A2 y1.length c2, .int .i64 s1, .int .i64 r1, .bool dn1] 49)).five
      obtain ⟨q0, q1, q2', q3, q4, qf⟩ := (E2.out.alloc (.cells #[.int .i64 m1, .slice A2 y1.length c2, .int .i64 s1, .int .i64 r1, .bool dn1] 49)).five
      obtain ⟨t0, t1, t2, tf⟩ := (E3.out.alloc (.cells #[.int .i64 m1, .slice A2 y1.length c2, .int .i64 s1, .int .i64 r1, .bool dn1] 49)).threes
      by_cases cq : q2 = 0
      · subst cq
        have hr2 : r = (⟨m1, y1, s1, r1, dn1⟩, wholeL bytes, 0) := by rw [← HR.out, HOP.out]; rfl
        subst hr2
        clear HR HOP
        go_wp2_with fail
        refine ⟨rfl, ?_⟩
        refine ⟨.tuple #[.agg #[.int .i64 m1, .slice A2 y1.length c2, .int .i64 s1, .int .i64 r1, .bool dn1], .agg #[.int .i64 ps.length, .int .i64 N, .bool false], .slice Ao ps.length co, .int .i64 0], ?_, ?_⟩
        · have hres : Try.f27.results = #[.cell 2 49, .cell 3 53, .tmp 4, .tmp 5] := rfl
          simp [results, hres, asAddr]
          try go_simp
        · have fz : ∀ wz, Fr (fun k => k = w.heap.size ∨ k = w.heap.size + 1 ∨ k = w.heap.size + 1 + 1) w2 wz → RdB wz (.slice A2 y1.length c2) _ ∧ Fr No w wz ∧ OwnL wz w.heap.size (.slice Ao ps.length co) ps := fun wz FZ => ⟨HR2.out.keep_ FZ (fun h0 q hq h => by have := HCL.out h0 q hq; omega), HF2.out.trans FZ (fun k hk h => by omega), HO2.out.boxes FZ (fun k h => by rcases h with rfl | rfl | rfl; exact ⟨_, _, E1.out, by decide, by decide⟩; exact ⟨_, _, E2.out, by decide, by decide⟩; exact ⟨_, _, E3.out, by decide, by decide⟩)⟩
          refine ⟨_, _, ps, ?_, (fz _ ?_).1, (fz _ ?_).2.1, HG2.out, (fz _ ?_).2.2, HPS.out⟩
          · unfold logV logOf
            dsimp only
            rw [HN.out, ← HPL.out]
            rfl
          all_goals
            repeat (first | refine Fr.setCell (S := fun k => k = w.heap.size ∨ k = w.heap.size + 1 ∨ k = w.heap.size + 1 + 1) ?_ (fun _ => by simp) _ | refine Fr.alloc ?_ _ | exact Fr.refl _ _)
      · have hb : ((q2 : Int) != 0) = true := by rw [bne_iff_ne]; omega
        have hr2 : r = (⟨m1, y1, s1, r1, dn1⟩, [], q2) := by rw [← HR.out, HOP.out]; rw [if_neg cq]
        subst hr2
        clear HR HOP cq
        go_wp2_with fail
        refine ⟨rfl, ?_⟩
        refine ⟨.tuple #[.agg #[.int .i64 m1, .slice A2 y1.length c2, .int .i64 s1, .int .i64 r1, .bool dn1], .agg #[.int .i64 0, .int .i64 0, .bool false], .slice none 0 0, .int .i64 q2], ?_, ?_⟩
        · have hres : Try.f27.results = #[.cell 2 49, .cell 3 53, .tmp 4, .tmp 5] := rfl
          simp [results, hres, asAddr]
          try go_simp
        · have fz : ∀ wz, Fr (fun k => k = w.heap.size ∨ k = w.heap.size + 1 ∨ k = w.heap.size + 1 + 1) w2 wz → RdB wz (.slice A2 y1.length c2) _ ∧ Fr No w wz ∧ OwnL wz w.heap.size (.slice none 0 0) [] := fun wz FZ => ⟨HR2.out.keep_ FZ (fun h0 q hq h => by have := HCL.out h0 q hq; omega), HF2.out.trans FZ (fun k hk h => by omega), OwnL.nil _ _⟩
          refine ⟨_, _, [], ?_, (fz _ ?_).1, (fz _ ?_).2.1, HG2.out, (fz _ ?_).2.2, rfl⟩
          · rfl
          all_goals
            repeat (first | refine Fr.setCell (S := fun k => k = w.heap.size ∨ k = w.heap.size + 1 ∨ k = w.heap.size + 1 + 1) ?_ (fun _ => by simp) _ | refine Fr.alloc ?_ _ | exact Fr.refl _ _)
    · have cl2 : ¬ (N : Int) < bytes.length := by omega
      rw [if_neg cl] at hop
      have hr2 : r = (⟨most, bytes, synced, arm, false⟩, wholeL bytes, 0) := by rw [← HR.out, hop]
      subst hr2
      clear HR hop
      obtain ⟨B1, B2, B3, F0⟩ := three_new w 49 53 #[.int .i64 most, .slice A bytes.length c, .int .i64 synced, .int .i64 arm, .bool false] #[.int .i64 0, .slice none 0 0, .int .i64 0, .int .i64 0, .bool false] #[.int .i64 0, .int .i64 0, .bool false]
      have HB1 := hid B1
      have HB2 := hid B2
      have HB3 := hid B3
      have HF0 := hid F0
      clear B1 B2 B3 F0
      go_enter Try.func27, Try.ntmps27
      go_wp2_with fail
      refine (whole_ref _ bytes _ (HU.out.too HF0.out) hl).mono ?_
      rintro e w1 ⟨vo, ps, rfl, O1, hps, F1⟩
      have C1 := hid (HB1.out.keep F1 (not_no _))
      have C2 := hid (HB2.out.keep F1 (not_no _))
      have C3 := hid (HB3.out.keep F1 (not_no _))
      have HF1 := hid (HF0.out.fresh_no F1)
      have HO1 := hid (O1.low (b := w.heap.size) HF0.out.size)
      have HPS := hid hps
      obtain ⟨Ao, co, rfl, hco⟩ := O1.rds.1.slice_
      have hpl : ps.length = (wholeL bytes).length := by rw [← hps]; simp
      have HPL := hid hpl
      obtain ⟨a0, a1, a2, a3, a4, af⟩ := C1.out.five
      obtain ⟨b0, b1, b2, b3, b4, bf⟩ := C2.out.five
      obtain ⟨e0, e1, e2, ef⟩ := C3.out.threes
      clear O1 hps F1 hpl
      have HWS := hid (show w.heap.size ≤ (((w.alloc (.cells #[.int .i64 most, .slice A bytes.length c, .int .i64 synced, .int .i64 arm, .bool false] 49)).alloc (.cells #[.int .i64 0, .slice none 0 0, .int .i64 0, .int .i64 0, .bool false] 49)).alloc (.cells #[.int .i64 0, .int .i64 0, .bool false] 53)).heap.size from HF0.out.size)
      rw [HN.out]
      go_wp2_with fail
      refine ⟨rfl, ?_⟩
      refine ⟨.tuple #[.agg #[.int .i64 most, .slice A bytes.length c, .int .i64 synced, .int .i64 arm, .bool false], .agg #[.int .i64 ps.length, .int .i64 N, .bool false], .slice Ao ps.length co, .int .i64 0], ?_, ?_⟩
      · have hres : Try.f27.results = #[.cell 2 49, .cell 3 53, .tmp 4, .tmp 5] := rfl
        simp [results, hres, asAddr]
        try go_simp
      · have fz : ∀ wz, Fr (fun k => k = w.heap.size ∨ k = w.heap.size + 1 ∨ k = w.heap.size + 1 + 1) w1 wz → RdB wz (.slice A bytes.length c) _ ∧ Fr No w wz ∧ OwnL wz w.heap.size (.slice Ao ps.length co) ps := fun wz FZ => ⟨HU.out.too (HF1.out.trans FZ (fun k hk h => by omega)), HF1.out.trans FZ (fun k hk h => by omega), HO1.out.boxes FZ (fun k h => by rcases h with rfl | rfl | rfl; exact ⟨_, _, C1.out, by decide, by decide⟩; exact ⟨_, _, C2.out, by decide, by decide⟩; exact ⟨_, _, C3.out, by decide, by decide⟩)⟩
        refine ⟨_, _, ps, ?_, (fz _ ?_).1, (fz _ ?_).2.1, .inl ⟨rfl, rfl⟩, (fz _ ?_).2.2, HPS.out⟩
        · unfold logV logOf
          dsimp only
          rw [HN.out, ← HPL.out]
          rfl
        all_goals
          repeat (first | refine Fr.setCell (S := fun k => k = w.heap.size ∨ k = w.heap.size + 1 ∨ k = w.heap.size + 1 + 1) ?_ (fun _ => by simp) _ | refine Fr.alloc ?_ _ | exact Fr.refl _ _)
  · have hr2 : r = (⟨most, bytes, synced, arm, true⟩, [], 15) := by rw [← HR.out]; rfl
    subst hr2
    clear HR
    obtain ⟨B1, B2, B3, F0⟩ := three_new w 49 53 #[.int .i64 most, .slice A bytes.length c, .int .i64 synced, .int .i64 arm, .bool true] #[.int .i64 0, .slice none 0 0, .int .i64 0, .int .i64 0, .bool false] #[.int .i64 0, .int .i64 0, .bool false]
    have HB1 := hid B1
    have HB2 := hid B2
    have HB3 := hid B3
    have HF0 := hid F0
    clear B1 B2 B3 F0
    go_enter Try.func27, Try.ntmps27
    go_wp2_with fail
    refine ⟨rfl, ?_⟩
    refine ⟨.tuple #[.agg #[.int .i64 most, .slice A bytes.length c, .int .i64 synced, .int .i64 arm, .bool true], .agg #[.int .i64 0, .int .i64 0, .bool false], .slice none 0 0, .int .i64 15], ?_, ?_⟩
    · have hres : Try.f27.results = #[.cell 2 49, .cell 3 53, .tmp 4, .tmp 5] := rfl
      simp [results, hres, asAddr]
      try go_simp
    · refine ⟨_, _, [], rfl, HU.out.too ?_, ?_, .inl ⟨rfl, rfl⟩, OwnL.nil _ _, rfl⟩ <;>
        (repeat (first | refine Fr.setCell ?_ (fun h => absurd h (by simp)) _ | refine Fr.alloc ?_ _)) <;> first | exact HF0.out | exact Fr.refl No w
end Go.Proofs.Ytfbhcapcnkcfdaa
