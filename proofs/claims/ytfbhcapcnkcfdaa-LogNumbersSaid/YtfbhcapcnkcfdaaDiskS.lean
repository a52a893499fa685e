import Derived.Test.YtfbhcapcnkcfdaaDiskD
import Derived.Test.YtfbhcapcnkcfdaaDiskE
/-! A disk that is new since w0. -/
namespace Go.Proofs.Ytfbhcapcnkcfdaa
open Go.RowKit
set_option linter.unusedVariables false
set_option linter.unusedSimpArgs false

/-- a disk that is new since w0, all else as it was -/
structure St (w0 w : World) (g : Nat) (v : Value) (d : DSt) : Prop where
  disk : IsDisk w g v d
  fr : Fr No w0 w
  gnew : w0.heap.size ≤ g
  vnew : ∀ k, Of v k → w0.heap.size ≤ k
section
variable {w0 w w1 w2 : World} {g : Nat} {v : Value} {d : DSt}
theorem IsDisk.its_lt (h : IsDisk w g v d) {k : Nat} (hk : Its g v k) : k < w.heap.size := by
  rcases hk with rfl | hk
  · exact h.lt
  · exact h.own.lt k hk
theorem its_new (h : IsDisk w g v d) {a b n : Nat} : 0 < n → ∀ k, Of (.slice (some ⟨w.heap.size, 0, none⟩) a b) k → ¬ Its g v k := fun _ k hk hi => by
  have h1 := h.its_lt hi
  have h2 := Of_some.1 hk
  simp at h2
  omega
theorem St.new {n : Int} (h : IsDisk w1 g v (newD n)) (hf : Fr No w0 w1) (hg : w0.heap.size ≤ g) (hv : ∀ k, ¬ Of v k) : St w0 w1 g v (newD n) := ⟨h, hf, hg, fun k hk => absurd hk (hv k)⟩
theorem St.its (h : St w0 w g v d) {k : Nat} (hk : Its g v k) : w0.heap.size ≤ k := by
  rcases hk with rfl | hk
  · exact h.gnew
  · exact h.vnew k hk
theorem St.keep (h : St w0 w g v d) (hf : Fr No w w1) : St w0 w1 g v d := ⟨h.disk.keep_no hf, h.fr.fresh_no hf, h.gnew, h.vnew⟩
theorem St.to (h : St w0 w g v d) {v' : Value} {d' : DSt} (hd : IsDisk w1 g v' d') (hf : Fr (Its g v) w w1) (hg : Grows w (Of v) v') : St w0 w1 g v' d' :=
  ⟨hd, h.fr.fresh hf (fun k hk => h.its hk), h.gnew, fun k hk => by rcases hg k hk with h1 | h1; exact h.vnew k h1; exact Nat.le_trans h.fr.size h1⟩
theorem St.step (h : St w0 w g v d) {r : DSt × Nat} {en : Ending} (hF : Fr No w w1) (hr : RetD w1 g v r en w2) : ∃ v2, en = .returned (.int .i64 r.2) ∧ St w0 w2 g v2 r.1 := by
  obtain ⟨v2, he, hd, hf, hg⟩ := hr
  exact ⟨v2, he, (h.keep hF).to hd hf hg⟩
theorem St.step0 (h : St w0 w g v d) {d' : DSt} {en : Ending} (hF : Fr No w w1) (hr : RetD0 w1 g v d' en w2) : ∃ v2, en = .returned (.tuple #[]) ∧ St w0 w2 g v2 d' := by
  obtain ⟨v2, he, hd, hf, hg⟩ := hr
  exact ⟨v2, he, (h.keep hF).to hd hf hg⟩
end

end Go.Proofs.Ytfbhcapcnkcfdaa
