import Derived.Test.YtfbhcapcnkcfdaaDiskS
/-! Two disks beside each other. -/
namespace Go.Proofs.Ytfbhcapcnkcfdaa
open Go.RowKit
set_option linter.unusedVariables false
set_option linter.unusedSimpArgs false

/-- two disks that are new since w0, of no memory in common -/
structure St2 (w0 w : World) (g : Nat) (v : Value) (d : DSt) (g' : Nat) (v' : Value) (d' : DSt) : Prop where
  a : St w0 w g v d
  b : St w0 w g' v' d'
  ne : g ≠ g'
  sep : ∀ k, Of v k → ¬ Of v' k
section
variable {w0 w w1 w2 : World} {g g' : Nat} {v v' : Value} {d d' : DSt}
theorem St2.swap (h : St2 w0 w g v d g' v' d') : St2 w0 w g' v' d' g v d := ⟨h.b, h.a, h.ne.symm, fun k h1 h2 => h.sep k h2 h1⟩
theorem St2.keep (h : St2 w0 w g v d g' v' d') (hf : Fr No w w1) : St2 w0 w1 g v d g' v' d' := ⟨h.a.keep hf, h.b.keep hf, h.ne, h.sep⟩
theorem St2.apart (h : St2 w0 w g v d g' v' d') {k : Nat} (hk : Its g' v' k) : ¬ Its g v k := by
  rcases hk with rfl | hk
  · rintro (e | h2)
    · exact h.ne e.symm
    · exact h.a.disk.own.ne_ h.b.disk.blk (by decide) h2
  · rintro (e | h2)
    · subst e; exact h.b.disk.own.ne_ h.a.disk.blk (by decide) hk
    · exact h.sep k h2 hk
theorem St2.toA (h : St2 w0 w g v d g' v' d') {v2 : Value} {d2 : DSt} (hd : IsDisk w1 g v2 d2) (hf : Fr (Its g v) w w1) (hg : Grows w (Of v) v2) : St2 w0 w1 g v2 d2 g' v' d' := by
  refine ⟨h.a.to hd hf hg, ⟨h.b.disk.keep hf (h.apart (.inl rfl)) (fun k hk => h.apart (.inr hk)), h.b.fr.fresh hf (fun k hk => h.a.its hk), h.b.gnew, h.b.vnew⟩, h.ne, fun k hk hk' => ?_⟩
  rcases hg k hk with h1 | h1
  · exact h.sep k h1 hk'
  · have := h.b.disk.own.lt k hk'; omega
theorem St2.step (h : St2 w0 w g v d g' v' d') {r : DSt × Nat} {en : Ending} (hF : Fr No w w1) (hr : RetD w1 g v r en w2) : ∃ v2, en = .returned (.int .i64 r.2) ∧ St2 w0 w2 g v2 r.1 g' v' d' := by
  obtain ⟨v2, he, hd, hf, hg⟩ := hr
  exact ⟨v2, he, (h.keep hF).toA hd hf hg⟩
theorem St2.step0 (h : St2 w0 w g v d g' v' d') {d2 : DSt} {en : Ending} (hF : Fr No w w1) (hr : RetD0 w1 g v d2 en w2) : ∃ v2, en = .returned (.tuple #[]) ∧ St2 w0 w2 g v2 d2 g' v' d' := by
  obtain ⟨v2, he, hd, hf, hg⟩ := hr
  exact ⟨v2, he, (h.keep hF).toA hd hf hg⟩
end

end Go.Proofs.Ytfbhcapcnkcfdaa
