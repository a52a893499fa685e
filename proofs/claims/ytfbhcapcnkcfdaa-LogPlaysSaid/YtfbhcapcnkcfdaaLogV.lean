import Derived.Test.YtfbhcapcnkcfdaaLogS
/-! The contracts of the document's log: Add. -/
namespace Go.Proofs.Ytfbhcapcnkcfdaa
open Go.RowKit
set_option linter.unusedVariables false
set_option linter.unusedSimpArgs false

theorem four_new (w : World) (t t2 : TypeId) (c1 c2 c3 c4 : Array Value) : Blk ((((w.alloc (.cells c1 t)).alloc (.cells c2 t2)).alloc (.cells c3 t2)).alloc (.cells c4 t)) w.heap.size t c1 ∧ Blk ((((w.alloc (.cells c1 t)).alloc (.cells c2 t2)).alloc (.cells c3 t2)).alloc (.cells c4 t)) (w.heap.size + 1) t2 c2 ∧ Blk ((((w.alloc (.cells c1 t)).alloc (.cells c2 t2)).alloc (.cells c3 t2)).alloc (.cells c4 t)) (w.heap.size + 1 + 1) t2 c3 ∧ Blk ((((w.alloc (.cells c1 t)).alloc (.cells c2 t2)).alloc (.cells c3 t2)).alloc (.cells c4 t)) (w.heap.size + 1 + 1 + 1) t c4 ∧ Fr No w ((((w.alloc (.cells c1 t)).alloc (.cells c2 t2)).alloc (.cells c3 t2)).alloc (.cells c4 t)) := by
  refine ⟨(((Blk.new w t c1).alloc _).alloc _).alloc _, ?_, ?_, ?_, ((((Fr.refl No w).alloc _).alloc _).alloc _).alloc _⟩
  · have h := ((Blk.new (w.alloc (.cells c1 t)) t2 c2).alloc (.cells c3 t2)).alloc (.cells c4 t)
    rwa [show (w.alloc (.cells c1 t)).heap.size = w.heap.size + 1 by simp] at h
  · have h := (Blk.new ((w.alloc (.cells c1 t)).alloc (.cells c2 t2)) t2 c3).alloc (.cells c4 t)
    rwa [show ((w.alloc (.cells c1 t)).alloc (.cells c2 t2)).heap.size = w.heap.size + 1 + 1 by simp] at h
  · have h := Blk.new (((w.alloc (.cells c1 t)).alloc (.cells c2 t2)).alloc (.cells c3 t2)) t c4
    rwa [show (((w.alloc (.cells c1 t)).alloc (.cells c2 t2)).alloc (.cells c3 t2)).heap.size = w.heap.size + 1 + 1 + 1 by simp] at h

def RetAddR (w : World) (u : Value) (d : DSt) (r : DSt × LSt × Nat) : Ending → World → Prop := fun e w' => ∃ u', e = .returned (.tuple #[refV r.1 u', logV r.2.1, .int .i64 r.2.2]) ∧ RdB w' u' r.1.bytes ∧ Fr No w w' ∧ ((u' = u ∧ r.1.bytes = d.bytes) ∨ Grows w No u')
theorem appendD_arms (d : DSt) (X : List UInt8) (h1 : -1 ≤ d.arm) (h2 : d.arm ≤ 9223372036854775807) : -1 ≤ (appendD d X).1.arm ∧ (appendD d X).1.arm ≤ 9223372036854775807 := by
  unfold appendD operD
  repeat' split
  all_goals (dsimp only; omega)

/-- where the four boxes lie, beside a value of the document's disk -/
structure Four (w x : World) (l : LSt) (d : DSt) (u : Value) (u0 : Value) (bs0 : List UInt8) : Prop where
  b1 : Blk x w.heap.size 53 #[.int .i64 l.n, .int .i64 l.bytes, .bool l.over]
  b2 : Blk x (w.heap.size + 1) 49 #[.int .i64 d.most, u, .int .i64 d.synced, .int .i64 d.arm, .bool d.down]
  b3 : Blk x (w.heap.size + 1 + 1) 49 #[.int .i64 0, .slice none 0 0, .int .i64 0, .int .i64 0, .bool false]
  b4 : Blk x (w.heap.size + 1 + 1 + 1) 53 #[.int .i64 0, .int .i64 0, .bool false]
  fr : Fr No w x
  rd : RdB x u d.bytes
  far : 0 < d.bytes.length → ∀ q, Of u q → ¬ (q = w.heap.size ∨ q = w.heap.size + 1 ∨ q = w.heap.size + 1 + 1 ∨ q = w.heap.size + 1 + 1 + 1)
  g : (u = u0 ∧ d.bytes = bs0) ∨ Grows w No u
section
variable {w x x2 : World} {l : LSt} {d d2 : DSt} {u u2 : Value} {u0 : Value} {bs0 : List UInt8}
theorem Four.keep (h : Four w x l d u u0 bs0) (hf : Fr No x x2) : Four w x2 l d u u0 bs0 :=
  ⟨h.b1.keep hf (not_no _), h.b2.keep hf (not_no _), h.b3.keep hf (not_no _), h.b4.keep hf (not_no _), h.fr.fresh_no hf, h.rd.fr hf, h.far, h.g⟩
/-- a call gave another disk: it is laid into its box -/
theorem Four.ref (h : Four w x l d u u0 bs0) (hu : RdB x2 u2 d2.bytes) (hf : Fr No x x2) (hg : (u2 = u ∧ d2.bytes = d.bytes) ∨ Grows x No u2) :
    Four w (((((x2.setCell ⟨w.heap.size + 1, 0, none⟩ (.int .i64 d2.most)).setCell ⟨w.heap.size + 1, 1, none⟩ u2).setCell ⟨w.heap.size + 1, 2, none⟩ (.int .i64 d2.synced)).setCell ⟨w.heap.size + 1, 3, none⟩ (.int .i64 d2.arm)).setCell ⟨w.heap.size + 1, 4, none⟩ (.bool d2.down)) l d2 u2 u0 bs0 := by
  have FS : Fr (fun k => k = w.heap.size + 1) x2 (((((x2.setCell ⟨w.heap.size + 1, 0, none⟩ (.int .i64 d2.most)).setCell ⟨w.heap.size + 1, 1, none⟩ u2).setCell ⟨w.heap.size + 1, 2, none⟩ (.int .i64 d2.synced)).setCell ⟨w.heap.size + 1, 3, none⟩ (.int .i64 d2.arm)).setCell ⟨w.heap.size + 1, 4, none⟩ (.bool d2.down)) := by
    repeat (first | refine Fr.setCell (S := fun k => k = w.heap.size + 1) ?_ (fun _ => rfl) _ | exact Fr.refl _ _)
  have K1 := h.b1.keep hf (not_no _)
  have K2 := h.b2.keep hf (not_no _)
  have K3 := h.b3.keep hf (not_no _)
  have K4 := h.b4.keep hf (not_no _)
  have hs : 0 < d2.bytes.length → ∀ q, Of u2 q → ¬ (q = w.heap.size ∨ q = w.heap.size + 1 ∨ q = w.heap.size + 1 + 1 ∨ q = w.heap.size + 1 + 1 + 1) := by
    intro h0 q hq
    rcases hg with ⟨rfl, hb⟩ | hg
    · exact h.far (by rw [← hb]; exact h0) q hq
    · rcases hg q hq with h1 | h1
      · exact absurd h1 (not_no _)
      · have := h.b4.lt
        omega
  refine ⟨K1.keep FS (by omega), K2.store5 _ _ _ _ _, K3.keep FS (by omega), K4.keep FS (by omega), (h.fr.fresh_no hf).fresh FS (fun k hk => by omega), hu.keep_ FS (fun h0 q hq e => hs h0 q hq (by omega)), hs, ?_⟩
  rcases hg with ⟨rfl, hb⟩ | hg
  · rcases h.g with ⟨e1, e2⟩ | h1
    · exact .inl ⟨e1, hb.trans e2⟩
    · exact .inr h1
  · exact .inr (fun q hq => (hg q hq).imp id (fun h1 => Nat.le_trans h.fr.size h1))
/-- the end: boxes were written -/
theorem Four.done (h : Four w x l d u u0 bs0) (hf : Fr (fun k => k = w.heap.size ∨ k = w.heap.size + 1 ∨ k = w.heap.size + 1 + 1 ∨ k = w.heap.size + 1 + 1 + 1) x x2) : RdB x2 u d.bytes ∧ Fr No w x2 :=
  ⟨h.rd.keep_ hf (fun h0 q hq e => h.far h0 q hq e), h.fr.fresh hf (fun k hk => by omega)⟩
theorem Four.done2 {y : World} (h : Four w y l d u u0 bs0) (hr : RdB x u d.bytes) (hf0 : Fr No w x) (hf : Fr (fun k => k = w.heap.size ∨ k = w.heap.size + 1 ∨ k = w.heap.size + 1 + 1 ∨ k = w.heap.size + 1 + 1 + 1) x x2) : RdB x2 u d.bytes ∧ Fr No w x2 :=
  ⟨hr.keep_ hf (fun h0 q hq e => h.far h0 q hq e), hf0.fresh hf (fun k hk => by omega)⟩
end
set_option maxRecDepth 100000 in
set_option maxHeartbeats 4000000 in
theorem addR_c (w : World) (d : DSt) (u : Value) (hu : RdB w u d.bytes) (h1 : -1 ≤ d.arm) (h2 : d.arm ≤ 9223372036854775807) (hm : (d.bytes.length : Int) ≤ d.most) (hm2 : d.most ≤ 67108864) (l : LSt) (hn1 : 0 ≤ l.n) (hn2 : l.n ≤ 4611686018427387904) (hb1 : 0 ≤ l.bytes) (hb2 : l.bytes ≤ 4611686018427387904)
    (y : Value) (rec : List UInt8) (hy : RdB w y rec) (r : DSt × LSt × Nat) (hr : addL d l rec = r) :
    Calls Try.prog 28 #[logV l, refV d u, y] w (RetAddR w u d r) := by
  obtain ⟨A, c, rfl, hc⟩ := hu.slice
  obtain ⟨Ay, cy, rfl, hcy⟩ := hy.slice
  obtain ⟨ln, lb, lo⟩ := l
  obtain ⟨B1, B2, B3, B4, F0⟩ := four_new w 53 49 #[.int .i64 ln, .int .i64 lb, .bool lo] #[.int .i64 d.most, .slice A d.bytes.length c, .int .i64 d.synced, .int .i64 d.arm, .bool d.down] #[.int .i64 0, .slice none 0 0, .int .i64 0, .int .i64 0, .bool false] #[.int .i64 0, .int .i64 0, .bool false]
  have H0 := hid (show Four w _ ⟨ln, lb, lo⟩ d (.slice A d.bytes.length c) (.slice A d.bytes.length c) d.bytes from ⟨B1, B2, B3, B4, F0, hu.too F0, fun h0 q hq => by have := hu.old h0 q hq; omega, .inl ⟨rfl, rfl⟩⟩)
  have HY := hid (hy.too F0)
  have HU := hid hu
  have HR := hid hr
  clear B1 B2 B3 B4 F0 hy hu hr
  unfold refV logV
  by_cases c1 : rec.length = 0
  · have d1 : ((rec.length : Int) == 0) = true := by simp; exact List.eq_nil_of_length_eq_zero c1
    have hr2 : r = (d, ⟨ln, lb, lo⟩, 2) := by rw [← HR.out]; unfold addL; rw [if_pos c1]
    subst hr2
    clear HR c1
    go_enter Try.func28, Try.ntmps28
    go_wp2_with fail
    go_region
    go_wp2_with fail
    refine ⟨rfl, ?_⟩
    refine ⟨.tuple #[.agg #[.int .i64 d.most, .slice A d.bytes.length c, .int .i64 d.synced, .int .i64 d.arm, .bool d.down], .agg #[.int .i64 ln, .int .i64 lb, .bool lo], .int .i64 2], ?_, ?_⟩
    · have hres : Try.f28.results = #[.cell 6 49, .cell 7 53, .tmp 8] := rfl
      simp [results, hres, asAddr]
      try go_simp
    · refine ⟨_, rfl, HU.out.too ?_, ?_, .inl ⟨rfl, rfl⟩⟩ <;>
        (repeat (first | exact Fr.refl _ _ | refine Fr.setCell ?_ (fun h => absurd h (by simp)) _ | refine Fr.alloc ?_ _ | refine Fr.drew ?_))
  have d1 : ((rec.length : Int) == 0) = false := by rw [beq_eq_false_iff_ne]; omega
  by_cases c2 : 1048576 < rec.length
  · have d2 : (1048576 : Int) < rec.length := by omega
    have hr2 : r = (d, ⟨ln, lb, lo⟩, 3) := by rw [← HR.out]; unfold addL; rw [if_neg c1, if_pos c2]
    subst hr2
    clear HR c1 c2
    go_enter Try.func28, Try.ntmps28
    go_wp2_with fail
    go_region
    go_wp2_with fail
    refine ⟨rfl, ?_⟩
    refine ⟨.tuple #[.agg #[.int .i64 d.most, .slice A d.bytes.length c, .int .i64 d.synced, .int .i64 d.arm, .bool d.down], .agg #[.int .i64 ln, .int .i64 lb, .bool lo], .int .i64 3], ?_, ?_⟩
    · have hres : Try.f28.results = #[.cell 6 49, .cell 7 53, .tmp 8] := rfl
      simp [results, hres, asAddr]
      try go_simp
    · refine ⟨_, rfl, HU.out.too ?_, ?_, .inl ⟨rfl, rfl⟩⟩ <;>
        (repeat (first | exact Fr.refl _ _ | refine Fr.setCell ?_ (fun h => absurd h (by simp)) _ | refine Fr.alloc ?_ _ | refine Fr.drew ?_))
  have d2 : ¬ (1048576 : Int) < rec.length := by omega
  cases lo
  case true =>
    have hr2 : r = (d, ⟨ln, lb, true⟩, 15) := by rw [← HR.out]; unfold addL; rw [if_neg c1, if_neg c2, if_pos rfl]
    subst hr2
    clear HR c1 c2
    go_enter Try.func28, Try.ntmps28
    go_wp2_with fail
    go_region
    go_wp2_with fail
    refine ⟨rfl, ?_⟩
    refine ⟨.tuple #[.agg #[.int .i64 d.most, .slice A d.bytes.length c, .int .i64 d.synced, .int .i64 d.arm, .bool d.down], .agg #[.int .i64 ln, .int .i64 lb, .bool true], .int .i64 15], ?_, ?_⟩
    · have hres : Try.f28.results = #[.cell 6 49, .cell 7 53, .tmp 8] := rfl
      simp [results, hres, asAddr]
      try go_simp
    · refine ⟨_, rfl, HU.out.too ?_, ?_, .inl ⟨rfl, rfl⟩⟩ <;>
        (repeat (first | exact Fr.refl _ _ | refine Fr.setCell ?_ (fun h => absurd h (by simp)) _ | refine Fr.alloc ?_ _ | refine Fr.drew ?_))
  have hadd : r = if (appendD d (recB rec)).2 = 0 then
    (if (syncD (appendD d (recB rec)).1).2 = 0 then ((syncD (appendD d (recB rec)).1).1, ⟨ln + 1, lb + 8 + rec.length, false⟩, 0)
     else ((syncD (appendD d (recB rec)).1).1, ⟨ln, lb, (syncD (appendD d (recB rec)).1).2 != 5⟩, (syncD (appendD d (recB rec)).1).2))
  else ((appendD d (recB rec)).1, ⟨ln, lb, (appendD d (recB rec)).2 != 5⟩, (appendD d (recB rec)).2) := by
    rw [← HR.out]; unfold addL; rw [if_neg c1, if_neg c2, if_neg (by simp)]
    dsimp only
    rw [recB_length, show lb + ((8 + rec.length : Nat) : Int) = lb + 8 + rec.length by omega]
  have harm := appendD_arms d (recB rec) h1 h2
  obtain ⟨⟨e1, n1⟩, ha⟩ : ∃ q, appendD d (recB rec) = q := ⟨_, rfl⟩
  rw [ha] at hadd harm
  have HA := hid ha
  have HADD := hid hadd
  have HARM := hid (show -1 ≤ e1.arm ∧ e1.arm ≤ 9223372036854775807 from harm)
  have HRL := hid (show rec.length ≤ 1048576 by omega)
  have HXL := hid (show (recB rec).length ≤ 140737400000000 by rw [recB_length]; omega)
  clear ha hadd harm HR c1 c2
  have s1 := H0.out.b1
  obtain ⟨W, hW⟩ : ∃ W, (((w.alloc (.cells #[.int .i64 ln, .int .i64 lb, .bool false] 53)).alloc (.cells #[.int .i64 d.most, .slice A d.bytes.length c, .int .i64 d.synced, .int .i64 d.arm, .bool d.down] 49)).alloc (.cells #[.int .i64 0, .slice none 0 0, .int .i64 0, .int .i64 0, .bool false] 49)).alloc (.cells #[.int .i64 0, .int .i64 0, .bool false] 53) = W := ⟨_, rfl⟩
  rw [hW] at H0 HY
  have HW := hid hW
  clear hW s1
  obtain ⟨a0, a1, a2, af⟩ := H0.out.b1.threes
  obtain ⟨b0, b1, b2, b3, b4, bf⟩ := H0.out.b2.five
  have HYD := hid (show RdB W.drew (.slice Ay rec.length cy) rec from HY.out.too ((Fr.refl No W).drew))
  have HUD := hid (show ∀ w', Fr No W.drew w' → RdB w' (.slice A d.bytes.length c) d.bytes from fun w' hf => H0.out.rd.fr (((Fr.refl No W).drew).fresh_no hf))
  go_enter Try.func28, Try.ntmps28
  go_wp2_with fail
  rw [HW.out]
  go_wp2_with fail
  go_region_law ((first
    | (refine step_fn (by rfl) 20 (.tmp 26) 22 (by rfl) (.slice Ay rec.length cy) (by rfl) (fun v w' => OwnB 5 w' v (recB rec) ∧ Fr No W.drew w' ∧ Grows W.drew No v) ((record_ref _ rec W.drew HYD.out (by have := HRL.out; omega)).mono (fun e w' h => by obtain ⟨v, h1, h2, h3, h4⟩ := h; exact ⟨v, h1, h2, h3, h4⟩)) (by rfl) ?_
       intro v4 w4 hq4
       have HO4 := hid hq4.1
       have HF4 := hid hq4.2.1
       clear hq4
       obtain ⟨A4, c4, rfl, hc4⟩ := HO4.out.slice
       have HU4 := hid (HUD.out w4 HF4.out)
       obtain ⟨b40, b41, b42, b43, b44, bf4⟩ := (H0.out.b2.keep (((Fr.refl No W).drew).fresh_no HF4.out) (not_no _)).five)
    | (refine step_fn2 (by rfl) 31 (.tmp 25) (.tmp 27) 49 22 (by rfl) (refV d (.slice A d.bytes.length c)) (.slice A4 (recB rec).length c4) (by rfl) (by rfl) (fun v w' => ∃ u', v = .tuple #[refV e1 u', .int .i64 n1] ∧ RdB w' u' e1.bytes ∧ Fr No w4 w' ∧ ((u' = .slice A d.bytes.length c ∧ e1.bytes = d.bytes) ∨ Grows w4 No u')) ((append_ref w4 d (.slice A d.bytes.length c) HU4.out h1 h2 hm hm2 _ (recB rec) HO4.out.rd HXL.out _ HA.out).mono (fun e w' h => by obtain ⟨u', h1, h2, h3, h4⟩ := h; exact ⟨_, h1, u', rfl, h2, h3, h4⟩)) (by rfl) ?_
       intro v5 w5 hq5
       obtain ⟨u5, rfl, R5, F5, G5⟩ := hq5
       obtain ⟨A5, c5, rfl, hc5⟩ := R5.slice
       have HF5 := hid (((Fr.refl No W).drew).fresh_no (HF4.out.fresh_no F5))
       have HR5 := hid R5
       have HG5 := hid (show (Value.slice A5 e1.bytes.length c5 = .slice A d.bytes.length c ∧ e1.bytes = d.bytes) ∨ Grows W No (.slice A5 e1.bytes.length c5) from G5.imp id (fun h q hq => (h q hq).imp id (fun h => Nat.le_trans (((Fr.refl No W).drew).fresh_no HF4.out).size h)))
       have H5 := hid (H0.out.ref HR5.out HF5.out HG5.out)
       clear R5 F5 G5
       obtain ⟨a50, a51, a52, af5⟩ := (H0.out.b1.keep HF5.out (not_no _)).threes
       obtain ⟨b50, b51, b52, b53, b54, bf5⟩ := (H0.out.b2.keep HF5.out (not_no _)).five
       unfold refV)))
  all_goals
    clear HO4 HF4 HU4 b40 b41 b42 b43 b44 bf4 a50 a51 a52 af5 b50 b51 b52 b53 b54 bf5 HR5 HG5 HF5 HUD HYD HA a0 a1 a2 af b0 b1 b2 b3 b4 bf HW
    obtain ⟨X, hX⟩ : ∃ X, (((((w5.setCell ⟨w.heap.size + 1, 0, none⟩ (.int .i64 e1.most)).setCell ⟨w.heap.size + 1, 1, none⟩ (.slice A5 e1.bytes.length c5)).setCell ⟨w.heap.size + 1, 2, none⟩ (.int .i64 e1.synced)).setCell ⟨w.heap.size + 1, 3, none⟩ (.int .i64 e1.arm)).setCell ⟨w.heap.size + 1, 4, none⟩ (.bool e1.down)) = X := ⟨_, rfl⟩
    rw [hX] at H5
    rw [hX]
    clear hX
    obtain ⟨a0, a1, a2, af⟩ := H5.out.b1.threes
    obtain ⟨b0, b1, b2, b3, b4, bf⟩ := H5.out.b2.five
    obtain ⟨p0, p1, p2, p3, p4, pf⟩ := H5.out.b3.five
    obtain ⟨t0, t1, t2, tf⟩ := H5.out.b4.threes
    by_cases cn : n1 = 0
    · subst cn
      obtain ⟨⟨e2, n2⟩, hs⟩ : ∃ q, syncD e1 = q := ⟨_, rfl⟩
      have hadd := HADD.out
      rw [if_pos rfl, hs] at hadd
      have HS := hid hs
      by_cases cm : n2 = 0
      · subst cm
        have hr2 : r = (e2, ⟨ln + 1, lb + 8 + rec.length, false⟩, 0) := by rw [hadd]; rfl
        subst hr2
        clear HADD hadd hs
        go_wp2_with fail
        refine (sync_ref X e1 (.slice A5 e1.bytes.length c5) H5.out.rd HARM.out.1 HARM.out.2 _ HS.out).mono ?_
        rintro e w6 ⟨u6, rfl, R6, F6, G6⟩
        obtain ⟨A6, c6, rfl, hc6⟩ := R6.slice
        have H6 := hid (H5.out.ref R6 F6 G6)
        have H60 := hid (H5.out.keep F6)
        have HR6 := hid R6
        clear R6 F6 G6 a0 a1 a2 af b0 b1 b2 b3 b4 bf p0 p1 p2 p3 p4 pf t0 t1 t2 tf
        obtain ⟨a0, a1, a2, af⟩ := H60.out.b1.threes
        obtain ⟨b0, b1, b2, b3, b4, bf⟩ := H60.out.b2.five
        obtain ⟨p0, p1, p2, p3, p4, pf⟩ := H60.out.b3.five
        obtain ⟨t0, t1, t2, tf⟩ := H60.out.b4.threes
        unfold refV
        have wn : IntKind.i64.wrap (ln + 1) = ln + 1 := by rw [IntKind.wrap_i64]; omega
        have wb : IntKind.i64.wrap (lb + 8) = lb + 8 := by rw [IntKind.wrap_i64]; omega
        have wb2 : IntKind.i64.wrap (lb + 8 + (rec.length : Int)) = lb + 8 + (rec.length : Int) := by have := HRL.out; rw [IntKind.wrap_i64]; omega
        go_wp2_with fail
        go_region
        go_wp2_with fail
        refine ⟨rfl, ?_⟩
        refine ⟨.tuple #[.agg #[.int .i64 e2.most, .slice A6 e2.bytes.length c6, .int .i64 e2.synced, .int .i64 e2.arm, .bool e2.down], .agg #[.int .i64 (ln + 1), .int .i64 (lb + 8 + rec.length), .bool false], .int .i64 0], ?_, ?_⟩
        · have hres : Try.f28.results = #[.cell 6 49, .cell 7 53, .tmp 8] := rfl
          simp [results, hres, asAddr]
          try go_simp
        · have fz : ∀ wz, Fr (fun k => k = w.heap.size ∨ k = w.heap.size + 1 ∨ k = w.heap.size + 1 + 1 ∨ k = w.heap.size + 1 + 1 + 1) _ wz → RdB wz _ _ ∧ Fr No w wz := fun wz FZ => H6.out.done2 HR6.out H60.out.fr FZ
          refine ⟨_, rfl, (fz _ ?_).1, (fz _ ?_).2, H6.out.g⟩
          all_goals
            refine Fr.drew ?_
            iterate 15 refine Fr.setCell (S := fun k => k = w.heap.size ∨ k = w.heap.size + 1 ∨ k = w.heap.size + 1 + 1 ∨ k = w.heap.size + 1 + 1 + 1) ?_ (fun _ => by simp) _
            exact Fr.refl _ _
      · have hb : ((n2 : Int) != 0) = true := by rw [bne_iff_ne]; omega
        obtain ⟨b, hb5⟩ : ∃ b : Bool, ((n2 : Int) != 5) = b := ⟨_, rfl⟩
        have hr2 : r = (e2, ⟨ln, lb, b⟩, n2) := by rw [hadd, ← hb5]; dsimp only; rw [if_neg cm]; congr 2; congr 1; rw [Bool.eq_iff_iff]; simp; omega
        subst hr2
        clear HADD hadd hs cm
        go_wp2_with fail
        refine (sync_ref X e1 (.slice A5 e1.bytes.length c5) H5.out.rd HARM.out.1 HARM.out.2 _ HS.out).mono ?_
        rintro e w6 ⟨u6, rfl, R6, F6, G6⟩
        obtain ⟨A6, c6, rfl, hc6⟩ := R6.slice
        have H6 := hid (H5.out.ref R6 F6 G6)
        have H60 := hid (H5.out.keep F6)
        have HR6 := hid R6
        clear R6 F6 G6 a0 a1 a2 af b0 b1 b2 b3 b4 bf p0 p1 p2 p3 p4 pf t0 t1 t2 tf
        obtain ⟨a0, a1, a2, af⟩ := H60.out.b1.threes
        obtain ⟨b0, b1, b2, b3, b4, bf⟩ := H60.out.b2.five
        obtain ⟨p0, p1, p2, p3, p4, pf⟩ := H60.out.b3.five
        obtain ⟨t0, t1, t2, tf⟩ := H60.out.b4.threes
        unfold refV
        go_wp2_with fail
        go_region
        go_wp2_with fail
        refine ⟨rfl, ?_⟩
        refine ⟨.tuple #[.agg #[.int .i64 e2.most, .slice A6 e2.bytes.length c6, .int .i64 e2.synced, .int .i64 e2.arm, .bool e2.down], .agg #[.int .i64 ln, .int .i64 lb, .bool b], .int .i64 n2], ?_, ?_⟩
        · have hres : Try.f28.results = #[.cell 6 49, .cell 7 53, .tmp 8] := rfl
          simp [results, hres, asAddr]
          try go_simp
        · have fz : ∀ wz, Fr (fun k => k = w.heap.size ∨ k = w.heap.size + 1 ∨ k = w.heap.size + 1 + 1 ∨ k = w.heap.size + 1 + 1 + 1) _ wz → RdB wz _ _ ∧ Fr No w wz := fun wz FZ => H6.out.done2 HR6.out H60.out.fr FZ
          refine ⟨_, rfl, (fz _ ?_).1, (fz _ ?_).2, H6.out.g⟩
          all_goals
            refine Fr.drew ?_
            iterate 14 refine Fr.setCell (S := fun k => k = w.heap.size ∨ k = w.heap.size + 1 ∨ k = w.heap.size + 1 + 1 ∨ k = w.heap.size + 1 + 1 + 1) ?_ (fun _ => by simp) _
            exact Fr.refl _ _
    · have hb : ((n1 : Int) != 0) = true := by rw [bne_iff_ne]; omega
      have hb0 : ((n1 : Int) == 0) = false := by rw [beq_eq_false_iff_ne]; omega
      obtain ⟨b, hb5⟩ : ∃ b : Bool, ((n1 : Int) != 5) = b := ⟨_, rfl⟩
      have hr2 : r = (e1, ⟨ln, lb, b⟩, n1) := by rw [HADD.out, ← hb5]; rw [if_neg cn]; congr 2; congr 1; rw [Bool.eq_iff_iff]; simp; omega
      subst hr2
      clear HADD cn
      go_wp2_with fail
      go_region
      go_wp2_with fail
      refine ⟨rfl, ?_⟩
      refine ⟨.tuple #[.agg #[.int .i64 e1.most, .slice A5 e1.bytes.length c5, .int .i64 e1.synced, .int .i64 e1.arm, .bool e1.down], .agg #[.int .i64 ln, .int .i64 lb, .bool b], .int .i64 n1], ?_, ?_⟩
      · have hres : Try.f28.results = #[.cell 6 49, .cell 7 53, .tmp 8] := rfl
        simp [results, hres, asAddr]
        try go_simp
      · have fz : ∀ wz, Fr (fun k => k = w.heap.size ∨ k = w.heap.size + 1 ∨ k = w.heap.size + 1 + 1 ∨ k = w.heap.size + 1 + 1 + 1) _ wz → RdB wz _ _ ∧ Fr No w wz := fun wz FZ => H5.out.done FZ
        refine ⟨_, rfl, (fz _ ?_).1, (fz _ ?_).2, H5.out.g⟩
        all_goals
          refine Fr.drew ?_
          iterate 9 refine Fr.setCell (S := fun k => k = w.heap.size ∨ k = w.heap.size + 1 ∨ k = w.heap.size + 1 + 1 ∨ k = w.heap.size + 1 + 1 + 1) ?_ (fun _ => by simp) _
          exact Fr.refl _ _
end Go.Proofs.Ytfbhcapcnkcfdaa
