import Derived.Test.YtfbhcapcnkcfdaaRefR
/-! The program's disk beside the document's. -/
namespace Go.Proofs.Ytfbhcapcnkcfdaa
open Go.RowKit
set_option linter.unusedVariables false
set_option linter.unusedSimpArgs false

/-- the program's disk is d', the document's, in the box gb, is d still; both are new since w0, of no memory in common -/
structure Mid (w0 w : World) (g : Nat) (v : Value) (d' : DSt) (gb : Nat) (u : Value) (d : DSt) : Prop where
  st : St w0 w g v d'
  blk : Blk w gb 49 #[.int .i64 d.most, u, .int .i64 d.synced, .int .i64 d.arm, .bool d.down]
  rd : RdB w u d.bytes
  gnew : w0.heap.size ≤ gb
  sep : 0 < d.bytes.length → ∀ k, Of u k → ¬ Its g v k ∧ k ≠ gb
section
variable {w0 w w1 w2 : World} {g gb : Nat} {v u : Value} {d d' : DSt}
theorem Mid.apart (h : Mid w0 w g v d' gb u d) : ¬ Its g v gb := by
  rintro (e | hk)
  · exact h.blk.ne_ (e ▸ h.st.disk.blk) (by decide) rfl
  · exact h.st.disk.own.ne_ h.blk (by decide) hk
theorem Mid.keep (h : Mid w0 w g v d' gb u d) (hf : Fr No w w1) : Mid w0 w1 g v d' gb u d := ⟨h.st.keep hf, h.blk.keep hf (not_no _), h.rd.fr hf, h.gnew, h.sep⟩
theorem Mid.turn (h : Mid w0 w g v d' gb u d) {v2 : Value} {d2 : DSt} (hd : IsDisk w1 g v2 d2) (hf : Fr (Its g v) w w1) (hg : Grows w (Of v) v2) : Mid w0 w1 g v2 d2 gb u d := by
  refine ⟨h.st.to hd hf hg, h.blk.keep hf h.apart, h.rd.keep_ hf (fun h0 k hk => (h.sep h0 k hk).1), h.gnew, fun h0 k hk => ⟨?_, (h.sep h0 k hk).2⟩⟩
  rintro (e | hk2)
  · exact (h.sep h0 k hk).1 (.inl e)
  · rcases hg k hk2 with h1 | h1
    · exact (h.sep h0 k hk).1 (.inr h1)
    · have := h.rd.old h0 k hk
      omega
theorem Mid.step (h : Mid w0 w g v d' gb u d) {r : DSt × Nat} {en : Ending} (hr : RetD w g v r en w2) : ∃ v2, en = .returned (.int .i64 r.2) ∧ Mid w0 w2 g v2 r.1 gb u d ∧ Fr (Its g v) w w2 := by
  obtain ⟨v2, he, hd, hf, hg⟩ := hr
  exact ⟨v2, he, h.turn hd hf hg, hf⟩
theorem Mid.step0 (h : Mid w0 w g v d' gb u d) {d2 : DSt} {en : Ending} (hr : RetD0 w g v d2 en w2) : ∃ v2, en = .returned (.tuple #[]) ∧ Mid w0 w2 g v2 d2 gb u d ∧ Fr (Its g v) w w2 := by
  obtain ⟨v2, he, hd, hf, hg⟩ := hr
  exact ⟨v2, he, h.turn hd hf hg, hf⟩
/-- the document's disk is written: it is d' too -/
theorem Mid.ref (h : Mid w0 w g v d' gb u d) {u' : Value} (hu : RdB w1 u' d'.bytes) (hf : Fr No w w1) (hg : (u' = u ∧ d'.bytes = d.bytes) ∨ Grows w No u') :
    Mid w0 (((((w1.setCell ⟨gb, 0, none⟩ (.int .i64 d'.most)).setCell ⟨gb, 1, none⟩ u').setCell ⟨gb, 2, none⟩ (.int .i64 d'.synced)).setCell ⟨gb, 3, none⟩ (.int .i64 d'.arm)).setCell ⟨gb, 4, none⟩ (.bool d'.down)) g v d' gb u' d' := by
  have FS : Fr (fun k => k = gb) w1 (((((w1.setCell ⟨gb, 0, none⟩ (.int .i64 d'.most)).setCell ⟨gb, 1, none⟩ u').setCell ⟨gb, 2, none⟩ (.int .i64 d'.synced)).setCell ⟨gb, 3, none⟩ (.int .i64 d'.arm)).setCell ⟨gb, 4, none⟩ (.bool d'.down)) := by
    repeat (first | refine Fr.setCell (S := fun k => k = gb) ?_ (fun _ => rfl) _ | exact Fr.refl _ _)
  have hs : 0 < d'.bytes.length → ∀ k, Of u' k → ¬ Its g v k ∧ k ≠ gb := by
    intro h0 k hk
    rcases hg with ⟨rfl, hb⟩ | hg
    · exact h.sep (by rw [← hb]; exact h0) k hk
    · rcases hg k hk with h1 | h1
      · exact absurd h1 (not_no _)
      · refine ⟨fun hi => ?_, ?_⟩
        · have := h.st.disk.its_lt hi
          omega
        · have := h.blk.lt
          omega
  have K := h.keep hf
  refine ⟨⟨K.st.disk.keep FS ?_ ?_, K.st.fr.fresh FS (fun k e => by rw [e]; exact h.gnew), K.st.gnew, K.st.vnew⟩, K.blk.store5 _ _ _ _ _, hu.keep_ FS (fun h0 k hk => (hs h0 k hk).2), h.gnew, hs⟩
  · exact fun e => h.apart (.inl e.symm)
  · exact fun k hk e => h.apart (.inr (e ▸ hk))
end
theorem Blk.three {w : World} {g : Nat} {t : TypeId} {a b c : Value} (h : Blk w g t #[a, b, c]) :
    w.cell? ⟨g, 0, none⟩ = some a ∧ w.cell? ⟨g, 1, none⟩ = some b ∧ w.cell? ⟨g, 2, none⟩ = some c ∧ ∀ i, w.frozen? ⟨g, i, none⟩ = false := ⟨h.cell 0, h.cell 1, h.cell 2, h.frozen⟩
end Go.Proofs.Ytfbhcapcnkcfdaa
