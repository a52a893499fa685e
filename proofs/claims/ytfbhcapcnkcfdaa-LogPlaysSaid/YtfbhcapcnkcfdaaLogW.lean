import Derived.Test.YtfbhcapcnkcfdaaLogV
import Derived.Test.YtfbhcapcnkcfdaaRefMid
/-! The program's disk and log beside the document's. -/
namespace Go.Proofs.Ytfbhcapcnkcfdaa
open Go.RowKit
set_option linter.unusedVariables false
set_option linter.unusedSimpArgs false

theorem addL_bound (d : DSt) (l : LSt) (rec : List UInt8) (r : DSt × LSt × Nat) (h : addL d l rec = r) : l.n ≤ r.2.1.n ∧ r.2.1.n ≤ l.n + 1 ∧ l.bytes ≤ r.2.1.bytes ∧ r.2.1.bytes ≤ l.bytes + 8 + rec.length := by
  subst h
  unfold addL
  rw [recB_length]
  split <;> (try split) <;> (try split) <;> (try split) <;> (try split) <;> dsimp only <;> omega
theorem recs_le (rs : List (List UInt8)) : rs.length ≤ (recsB rs).length := by
  induction rs with
  | nil => simp [recsB]
  | cons r rs ih =>
    rw [recsB_cons, List.length_append, recB_length, List.length_cons]
    omega
theorem openD_bound (d : DSt) (r : DSt × List (List UInt8) × Nat) (h : openD d = r) : r.2.1.length ≤ d.bytes.length ∧ (recsB r.2.1).length ≤ d.bytes.length := by
  have h1 := wholeL_size _ d.bytes (Nat.le_refl _)
  have h2 := recs_le (wholeL d.bytes)
  subst h
  unfold openD
  split <;> (try split) <;> (try split) <;> dsimp only <;> first | exact ⟨by omega, h1⟩ | exact ⟨by simp, by simp [recsB]⟩
theorem openD_none (d : DSt) (r : DSt × List (List UInt8) × Nat) (h : openD d = r) (h0 : r.2.2 ≠ 0) : r.2.1 = [] := by
  subst h
  unfold openD at h0 ⊢
  split <;> (try split) <;> (try split) <;> rename_i c <;> first | rfl | (exfalso; simp_all)
theorem openAny_c {w : World} {g : Nat} {v : Value} {d : DSt} (h : IsDisk w g v d) (r : DSt × List (List UInt8) × Nat) (hr : openD d = r) :
    Calls Try.prog 13 #[.pointer (some ⟨g, 0, none⟩)] w (Rest w g v d r) := by
  cases hd : d.down
  · exact open_up h hd r hr
  · have hr2 : r = (d, [], 15) := by rw [← hr]; unfold openD; rw [if_pos hd]
    subst hr2
    refine (open_down h hd).mono fun e w' hh => .inr ⟨by simp, ?_⟩
    exact hh
theorem Blk.store3 {w : World} {g : Nat} {t : TypeId} {c0 c1 c2 : Value} (h : Blk w g t #[c0, c1, c2]) (v0 v1 v2 : Value) :
    Blk (((w.setCell ⟨g, 0, none⟩ v0).setCell ⟨g, 1, none⟩ v1).setCell ⟨g, 2, none⟩ v2) g t #[v0, v1, v2] := by
  have h1 := h.set_ 0 v0
  have h2 := h1.set_ 1 v1
  have h3 := h2.set_ 2 v2
  exact h3
/-- the document's disk is in the box gb, its log in the box gq; all that is new since w0 -/
structure Play (w0 w : World) (g : Nat) (v : Value) (d1 : DSt) (gb : Nat) (u : Value) (d : DSt) (gl : Nat) (l1 : LSt) (gq : Nat) (l : LSt) : Prop where
  sl : SL w0 w g v d1 gl l1
  blk : Blk w gb 49 #[.int .i64 d.most, u, .int .i64 d.synced, .int .i64 d.arm, .bool d.down]
  rd : RdB w u d.bytes
  gnew : w0.heap.size ≤ gb
  lb : Blk w gq 53 #[.int .i64 l.n, .int .i64 l.bytes, .bool l.over]
  qnew : w0.heap.size ≤ gq
  sep : 0 < d.bytes.length → ∀ k, Of u k → ¬ Its g v k ∧ k ≠ gb ∧ k ≠ gl ∧ k ≠ gq
section
variable {w0 w w1 w2 : World} {g gb gl gl2 gq : Nat} {v v2 u u' : Value} {d d1 d2 d' : DSt} {l l1 l2 : LSt}
theorem Play.keep (h : Play w0 w g v d1 gb u d gl l1 gq l) (hf : Fr No w w1) : Play w0 w1 g v d1 gb u d gl l1 gq l :=
  ⟨h.sl.keep hf, h.blk.keep hf (not_no _), h.rd.too hf, h.gnew, h.lb.keep hf (not_no _), h.qnew, h.sep⟩
theorem Play.drewN (h : Play w0 w g v d1 gb u d gl l1 gq l) (n : Nat) : Play w0 (w.drewN n) g v d1 gb u d gl l1 gq l := h.keep ((Fr.refl No w).drewN n)
/-- the program's disk and log are turned -/
theorem Play.turn (h : Play w0 w g v d1 gb u d gl l1 gq l) (hs : SL w0 w1 g v2 d2 gl2 l2) (hl : gl2 = gl ∨ w.heap.size ≤ gl2) (hf : Fr (fun k => Its g v k ∨ k = gl) w w1) (hg : Grows w (Of v) v2) : Play w0 w1 g v2 d2 gb u d gl2 l2 gq l := by
  have hb : ¬ (Its g v gb ∨ gb = gl) := by
    rintro (e | e)
    · exact h.sl.st.disk.notIts h.blk (by decide) (by decide) e
    · exact h.blk.ne_ h.sl.log (by decide) e
  have hq : ¬ (Its g v gq ∨ gq = gl) := by
    rintro (e | e)
    · exact h.sl.st.disk.notIts h.lb (by decide) (by decide) e
    · exact h.lb.ne_ h.sl.log (by decide) e
  refine ⟨hs, h.blk.keep hf hb, h.rd.keep_ hf (fun h0 k hk hi => ?_), h.gnew, h.lb.keep hf hq, h.qnew, fun h0 k hk => ⟨?_, (h.sep h0 k hk).2.1, ?_, (h.sep h0 k hk).2.2.2⟩⟩
  · rcases hi with hi | hi
    · exact (h.sep h0 k hk).1 hi
    · exact (h.sep h0 k hk).2.2.1 hi
  · rintro (e | hk2)
    · exact (h.sep h0 k hk).1 (.inl e)
    · rcases hg k hk2 with h1 | h1
      · exact (h.sep h0 k hk).1 (.inr h1)
      · have := h.rd.old h0 k hk
        omega
  · rcases hl with rfl | hl
    · exact (h.sep h0 k hk).2.2.1
    · have := h.rd.old h0 k hk
      omega
theorem Play.disk (h : Play w0 w g v d1 gb u d gl l1 gq l) {r : DSt × Nat} {en : Ending} (hr : RetD w g v r en w2) : ∃ v2, en = .returned (.int .i64 r.2) ∧ Play w0 w2 g v2 r.1 gb u d gl l1 gq l ∧ Fr (Its g v) w w2 := by
  obtain ⟨v2, he, hd, hf, hg⟩ := hr
  exact ⟨v2, he, h.turn (h.sl.disk hd hf hg) (.inl rfl) (hf.mono fun _ _ h => .inl h) hg, hf⟩
theorem Play.disk0 (h : Play w0 w g v d1 gb u d gl l1 gq l) {d2 : DSt} {en : Ending} (hr : RetD0 w g v d2 en w2) : ∃ v2, en = .returned (.tuple #[]) ∧ Play w0 w2 g v2 d2 gb u d gl l1 gq l ∧ Fr (Its g v) w w2 := by
  obtain ⟨v2, he, hd, hf, hg⟩ := hr
  exact ⟨v2, he, h.turn (h.sl.disk hd hf hg) (.inl rfl) (hf.mono fun _ _ h => .inl h) hg, hf⟩
/-- the document's disk is written: it is d' too -/
theorem Play.ref (h : Play w0 w g v d' gb u d gl l1 gq l) (hu : RdB w1 u' d'.bytes) (hf : Fr No w w1) (hg : (u' = u ∧ d'.bytes = d.bytes) ∨ Grows w No u') :
    Play w0 (((((w1.setCell ⟨gb, 0, none⟩ (.int .i64 d'.most)).setCell ⟨gb, 1, none⟩ u').setCell ⟨gb, 2, none⟩ (.int .i64 d'.synced)).setCell ⟨gb, 3, none⟩ (.int .i64 d'.arm)).setCell ⟨gb, 4, none⟩ (.bool d'.down)) g v d' gb u' d' gl l1 gq l := by
  have FS : Fr (fun k => k = gb) w1 (((((w1.setCell ⟨gb, 0, none⟩ (.int .i64 d'.most)).setCell ⟨gb, 1, none⟩ u').setCell ⟨gb, 2, none⟩ (.int .i64 d'.synced)).setCell ⟨gb, 3, none⟩ (.int .i64 d'.arm)).setCell ⟨gb, 4, none⟩ (.bool d'.down)) := by
    repeat (first | refine Fr.setCell (S := fun k => k = gb) ?_ (fun _ => rfl) _ | exact Fr.refl _ _)
  have hs : 0 < d'.bytes.length → ∀ k, Of u' k → ¬ Its g v k ∧ k ≠ gb ∧ k ≠ gl ∧ k ≠ gq := by
    intro h0 k hk
    rcases hg with ⟨rfl, hb⟩ | hg
    · exact h.sep (by rw [← hb]; exact h0) k hk
    · rcases hg k hk with h1 | h1
      · exact absurd h1 (not_no _)
      · have a1 := h.blk.lt
        have a2 := Blk.lt h.sl.log
        have a3 := h.lb.lt
        refine ⟨fun hi => ?_, by omega, by omega, by omega⟩
        have := h.sl.st.disk.its_lt hi
        omega
  have K := h.keep hf
  have hbi : ¬ Its g v gb := h.sl.st.disk.notIts h.blk (by decide) (by decide)
  refine ⟨⟨⟨K.sl.st.disk.keep FS ?_ ?_, K.sl.st.fr.fresh FS (fun k e => by rw [e]; exact h.gnew), K.sl.st.gnew, K.sl.st.vnew⟩, Blk.keep K.sl.log FS ?_, h.sl.lnew⟩, K.blk.store5 _ _ _ _ _, hu.keep_ FS (fun h0 k hk => (hs h0 k hk).2.1), h.gnew, K.lb.keep FS ?_, h.qnew, hs⟩
  · exact fun e => hbi (.inl e.symm)
  · exact fun k hk e => hbi (.inr (e ▸ hk))
  · exact fun e => h.blk.ne_ h.sl.log (by decide) e.symm
  · exact fun e => h.blk.ne_ h.lb (by decide) e.symm
/-- the document's log is written -/
theorem Play.logs (h : Play w0 w g v d1 gb u d gl l1 gq l) (m : LSt) :
    Play w0 (((w.setCell ⟨gq, 0, none⟩ (.int .i64 m.n)).setCell ⟨gq, 1, none⟩ (.int .i64 m.bytes)).setCell ⟨gq, 2, none⟩ (.bool m.over)) g v d1 gb u d gl l1 gq m := by
  have FS : Fr (fun k => k = gq) w (((w.setCell ⟨gq, 0, none⟩ (.int .i64 m.n)).setCell ⟨gq, 1, none⟩ (.int .i64 m.bytes)).setCell ⟨gq, 2, none⟩ (.bool m.over)) := by
    repeat (first | refine Fr.setCell (S := fun k => k = gq) ?_ (fun _ => rfl) _ | exact Fr.refl _ _)
  have hbi : ¬ Its g v gq := h.sl.st.disk.notIts h.lb (by decide) (by decide)
  refine ⟨⟨⟨h.sl.st.disk.keep FS ?_ ?_, h.sl.st.fr.fresh FS (fun k e => by rw [e]; exact h.qnew), h.sl.st.gnew, h.sl.st.vnew⟩, Blk.keep h.sl.log FS ?_, h.sl.lnew⟩, h.blk.keep FS ?_, h.rd.keep_ FS (fun h0 k hk => (h.sep h0 k hk).2.2.2), h.gnew, h.lb.store3 _ _ _, h.qnew, h.sep⟩
  · exact fun e => hbi (.inl e.symm)
  · exact fun k hk e => hbi (.inr (e ▸ hk))
  · exact fun e => h.lb.ne_ h.sl.log (by decide) e.symm
  · exact fun e => h.blk.ne_ h.lb (by decide) e
/-- all begins -/
theorem Play.start {d : DSt} {l : LSt} {y : Value} {s a' : Int} (h : SL w0 w g v d gl l) {b : Bool} (hb : Blk w gb 49 #[.int .i64 d.most, y, .int .i64 s, .int .i64 a', .bool b]) (hg : w0.heap.size ≤ gb) (hu : RdB w1 u d.bytes) (h0 : d.bytes = []) (hf : Fr No w w1) :
    Play w0 ((((((w1.alloc (.cells #[.int .i64 l.n, .int .i64 l.bytes, .bool l.over] 53)).setCell ⟨gb, 0, none⟩ (.int .i64 d.most)).setCell ⟨gb, 1, none⟩ u).setCell ⟨gb, 2, none⟩ (.int .i64 d.synced)).setCell ⟨gb, 3, none⟩ (.int .i64 d.arm)).setCell ⟨gb, 4, none⟩ (.bool d.down)) g v d gb u d gl l w1.heap.size l := by
  have FA := (Fr.refl No w1).alloc (.cells #[.int .i64 l.n, .int .i64 l.bytes, .bool l.over] 53)
  have hz : ∀ {P : Prop}, 0 < d.bytes.length → P := fun h => absurd h (by rw [h0]; simp)
  have hbi : ¬ Its g v gb := h.st.disk.notIts hb (by decide) (by decide)
  have hlt := hb.lt
  have hs := hf.size
  have FS : Fr (fun k => k = gb) (w1.alloc (.cells #[.int .i64 l.n, .int .i64 l.bytes, .bool l.over] 53)) ((((((w1.alloc (.cells #[.int .i64 l.n, .int .i64 l.bytes, .bool l.over] 53)).setCell ⟨gb, 0, none⟩ (.int .i64 d.most)).setCell ⟨gb, 1, none⟩ u).setCell ⟨gb, 2, none⟩ (.int .i64 d.synced)).setCell ⟨gb, 3, none⟩ (.int .i64 d.arm)).setCell ⟨gb, 4, none⟩ (.bool d.down)) := by
    generalize w1.alloc (.cells #[.int .i64 l.n, .int .i64 l.bytes, .bool l.over] 53) = z
    repeat (first | refine Fr.setCell (S := fun k => k = gb) ?_ (fun _ => rfl) _ | exact Fr.refl _ _)
  have K := (h.keep hf).keep FA
  refine ⟨⟨⟨K.st.disk.keep FS ?_ ?_, K.st.fr.fresh FS (fun k e => by rw [e]; exact hg), K.st.gnew, K.st.vnew⟩, Blk.keep K.log FS ?_, h.lnew⟩, ((hb.keep hf (not_no _)).alloc _).store5 _ _ _ _ _, (hu.too FA).keep_ FS (fun h => hz h), hg, (Blk.new w1 _ _).keep FS ?_, Nat.le_trans h.st.fr.size hs, fun h => hz h⟩
  · exact fun e => hbi (.inl e.symm)
  · exact fun k hk e => hbi (.inr (e ▸ hk))
  · exact fun e => hb.ne_ h.log (by decide) e.symm
  · show ¬ w1.heap.size = gb
    omega
end
/-- a box that was made ahead of five stores into another one -/
theorem box_after (w1 : World) (gb : Nat) (hlt : gb < w1.heap.size) (t : TypeId) (cs : Array Value) (a0 a1 a2 a3 a4 : Value) :
    Blk ((((((w1.alloc (.cells cs t)).setCell ⟨gb, 0, none⟩ a0).setCell ⟨gb, 1, none⟩ a1).setCell ⟨gb, 2, none⟩ a2).setCell ⟨gb, 3, none⟩ a3).setCell ⟨gb, 4, none⟩ a4) w1.heap.size t cs := by
  have h : w1.heap.size ≠ gb := by omega
  exact ((((((Blk.new w1 t cs).far h a0).far h a1).far h a2).far h a3).far h a4)
/-- the document's Open of a new disk -/
theorem open_ref0 (w : World) (most : Int) : Calls Try.prog 27 #[.agg #[.int .i64 most, .slice none 0 0, .int .i64 0, .int .i64 (-1), .bool false]] w fun e w' => ∃ A4 c4 A2 c2, e = .returned (.tuple #[.agg #[.int .i64 most, .slice A4 0 c4, .int .i64 0, .int .i64 (-1), .bool false], .agg #[.int .i64 0, .int .i64 0, .bool false], .slice A2 0 c2, .int .i64 0]) ∧ RdB w' (.slice A4 0 c4) [] ∧ Fr No w w' := by
  refine (open_ref w (newD most) (.slice none 0 0) (RdB.nil _) (by simp [newD]) (by simp [newD]) (by simp [newD]) _ (openD_whole (newD most) [] rfl rfl (by simp))).mono ?_
  rintro e w4 ⟨u4, vo2, ps2, rfl, R4, F4, G4, O4, hps2⟩
  obtain ⟨A4, c4, rfl, hc4⟩ := R4.slice
  obtain ⟨Ao2, co2, rfl, hco2⟩ := O4.rds.1.slice_
  have h0 : ps2 = [] := List.map_eq_nil_iff.1 hps2
  subst h0
  exact ⟨A4, c4, Ao2, co2, rfl, R4, F4⟩
/-- a box of three, halfway through its stores -/
theorem Blk.steps3 {w : World} {g : Nat} {t : TypeId} {a b c : Value} (h : Blk w g t #[a, b, c]) (v0 v1 : Value) :
    (w.setCell ⟨g, 0, none⟩ v0).cell? ⟨g, 1, none⟩ = some b ∧ ((w.setCell ⟨g, 0, none⟩ v0).setCell ⟨g, 1, none⟩ v1).cell? ⟨g, 2, none⟩ = some c ∧ (∀ i, (w.setCell ⟨g, 0, none⟩ v0).frozen? ⟨g, i, none⟩ = false) ∧ ∀ i, ((w.setCell ⟨g, 0, none⟩ v0).setCell ⟨g, 1, none⟩ v1).frozen? ⟨g, i, none⟩ = false :=
  ⟨(h.set_ 0 v0).cell 1, ((h.set_ 0 v0).set_ 1 v1).cell 2, (h.set_ 0 v0).frozen, ((h.set_ 0 v0).set_ 1 v1).frozen⟩
theorem store5_fr (w : World) (gb : Nat) (a0 a1 a2 a3 a4 : Value) : Fr (fun k => k = gb) w (((((w.setCell ⟨gb, 0, none⟩ a0).setCell ⟨gb, 1, none⟩ a1).setCell ⟨gb, 2, none⟩ a2).setCell ⟨gb, 3, none⟩ a3).setCell ⟨gb, 4, none⟩ a4) := by
  repeat (first | refine Fr.setCell (S := fun k => k = gb) ?_ (fun _ => rfl) _ | exact Fr.refl _ _)
theorem OwnL.store5 {w : World} {base gb : Nat} {v : Value} {ps : List (Value × List UInt8)} (h : OwnL w base v ps) {t : TypeId} {cs : Array Value} (hb : Blk w gb t cs) (h1 : 22 ≠ t) (h2 : 5 ≠ t) (a0 a1 a2 a3 a4 : Value) :
    OwnL (((((w.setCell ⟨gb, 0, none⟩ a0).setCell ⟨gb, 1, none⟩ a1).setCell ⟨gb, 2, none⟩ a2).setCell ⟨gb, 3, none⟩ a3).setCell ⟨gb, 4, none⟩ a4) base v ps :=
  h.boxes (store5_fr w gb a0 a1 a2 a3 a4) (fun k hk => by subst hk; exact ⟨t, cs, hb, h1, h2⟩)
end Go.Proofs.Ytfbhcapcnkcfdaa
