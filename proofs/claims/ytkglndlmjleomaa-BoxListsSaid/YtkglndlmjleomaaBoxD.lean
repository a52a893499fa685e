import Derived.Test.YtkglndlmjleomaaBoxC
/-! The boxes, actor by actor: mail without args. -/
namespace Go.Proofs.Ytkglndlmjleomaa
open Go.RowKit
set_option linter.unusedVariables false
set_option linter.unusedSimpArgs false

def rowOf (ms : List (Int × Value)) (k : Int) : Value := (getM k ms).getD (.slice none 0 0)
def cellsOf (l : List MailA) : List Value := l.flatMap (fun m => m.cells.toList)
theorem cellsOf_snoc (l : List MailA) (m : MailA) : cellsOf (l ++ [m]) = cellsOf l ++ m.cells.toList := by simp [cellsOf]
theorem rowOf_put_same {ms : List (Int × Value)} (k : Int) (v : Value) (hn : (ms.map (·.1)).Nodup) : rowOf (putM k v ms) k = v := by unfold rowOf; rw [getM_put_same k v hn]; rfl
theorem rowOf_put_other {ms : List (Int × Value)} {k k' : Int} (v : Value) (h : k' ≠ k) : rowOf (putM k v ms) k' = rowOf ms k' := by unfold rowOf; rw [getM_put_other v h]
theorem rowOf_del_same {ms : List (Int × Value)} (k : Int) : rowOf (delM k ms) k = .slice none 0 0 := by unfold rowOf; rw [getM_del_same]; rfl
theorem rowOf_del_other {ms : List (Int × Value)} {k k' : Int} (h : k' ≠ k) : rowOf (delM k ms) k' = rowOf ms k' := by unfold rowOf; rw [getM_del_other h]
theorem Own.not_map {e : TypeId} {size n b : Nat} {w : World} {v : Value} {xs : List Value} {ms : List (Int × Value)} (h : Own e size w v n xs) (hm : IsMap w b ms) : ¬ Of v b := by
  obtain ⟨es, clock, hb, _⟩ := hm
  intro ho
  rcases h.2 with ⟨rfl, _⟩ | ⟨g, cap, cur, rfl, hg, _⟩
  · exact Of_none ho
  · have := Of_some.1 ho
    dsimp only at this
    subst this
    rw [hb] at hg
    cases hg
theorem Blk.not_map {w : World} {g b : Nat} {t : TypeId} {cs : Array Value} {ms : List (Int × Value)} (h : Blk w g t cs) (hm : IsMap w b ms) : g ≠ b := by
  obtain ⟨es, clock, hb, _⟩ := hm
  rintro rfl
  unfold Blk at h
  rw [hb] at h
  cases h
/-- boxes of n, in block g, their map in block b; of each actor k what waits is f k -/
structure IsBox (w : World) (g b : Nat) (n : Int) (ms : List (Int × Value)) (f : Int → List MailA) : Prop where
  blk : Blk w g 61 #[.int .i64 n, .map (some b)]
  map : IsMap w b ms
  row : ∀ k, Own 30 6 w (rowOf ms k) (f k).length (cellsOf (f k))
  apart : ∀ k k', k ≠ k' → ∀ x, Of (rowOf ms k) x → ¬ Of (rowOf ms k') x
  dom : ∀ k, k ∈ ms.map (·.1) ↔ f k ≠ []
section
variable {w w1 w2 : World} {g b : Nat} {n : Int} {ms : List (Int × Value)} {f : Int → List MailA}
theorem IsBox.keep (h : IsBox w g b n ms f) (hf : Fr No w w1) : IsBox w1 g b n ms f :=
  ⟨h.blk.keep hf (not_no _), h.map.keep hf (not_no _), fun k => (h.row k).keep hf (fun x _ => not_no x), h.apart, h.dom⟩
theorem IsBox.start (hb : Blk w g 61 #[.int .i64 n, .map (some b)]) (hm : IsMap w b []) : IsBox w g b n [] (fun _ => []) :=
  ⟨hb, hm, fun k => Own.nil _ _ _, fun k k' _ x hx => absurd hx Of_none, fun k => by simp⟩
/-- the row of an actor is another one, that holds l -/
theorem IsBox.put (h : IsBox w g b n ms f) (k : Int) (v : Value) (l : List MailA) (hl : l ≠ []) (ho : Own 30 6 w1 v l.length (cellsOf l)) (hf : Fr (Of (rowOf ms k)) w w1) (hg : ∀ x, Of v x → Of (rowOf ms k) x ∨ w.heap.size ≤ x)
    (hm : IsMap w2 b (putM k v ms)) (h2 : Fr (fun x => x = b) w1 w2) : IsBox w2 g b n (putM k v ms) (fun x => if x = k then l else f x) := by
  have hb1 : IsMap w1 b ms := h.map.keep hf ((h.row k).not_map h.map)
  have hblk : Blk w1 g 61 #[.int .i64 n, .map (some b)] := h.blk.keep hf ((h.row k).ne_ h.blk (by decide))
  have hr1 : ∀ k', k' ≠ k → Own 30 6 w1 (rowOf ms k') (f k').length (cellsOf (f k')) := fun k' hk => (h.row k').keep hf (fun x hx => h.apart k' k hk x hx)
  have hnd := h.map.nodup
  refine ⟨hblk.keep h2 (hblk.not_map hb1), hm, fun k' => ?_, fun k1 k2 hne x h1 h2' => ?_, fun k' => ?_⟩
  · by_cases hk : k' = k
    · subst hk
      rw [rowOf_put_same _ _ hnd, if_pos rfl]
      exact ho.keep h2 (fun x hx e => ho.not_map hb1 (e ▸ hx))
    · rw [rowOf_put_other _ hk, if_neg hk]
      exact (hr1 k' hk).keep h2 (fun x hx e => (hr1 k' hk).not_map hb1 (e ▸ hx))
  · have old : ∀ k', ∀ x, Of (rowOf ms k') x → x < w.heap.size := fun k' x hx => (h.row k').lt x hx
    by_cases e1 : k1 = k
    · subst e1
      have e2 : k2 ≠ k1 := fun e => hne e.symm
      rw [rowOf_put_same _ _ hnd] at h1
      rw [rowOf_put_other _ e2] at h2'
      rcases hg x h1 with h3 | h3
      · exact h.apart k1 k2 hne x h3 h2'
      · have := old k2 x h2'; omega
    · rw [rowOf_put_other _ e1] at h1
      by_cases e2 : k2 = k
      · subst e2
        rw [rowOf_put_same _ _ hnd] at h2'
        rcases hg x h2' with h3 | h3
        · exact h.apart k1 k2 hne x h1 h3
        · have := old k1 x h1; omega
      · rw [rowOf_put_other _ e2] at h2'
        exact h.apart k1 k2 hne x h1 h2'
  · rw [mem_put]
    by_cases hk : k' = k
    · simp [hk, hl]
    · simp [hk, h.dom k']
end
end Go.Proofs.Ytkglndlmjleomaa
