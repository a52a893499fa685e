import Derived.Test.YthcebkbedfaoeaaTellsF
import Derived.Test.YthcebkbedfaoeaaBoundB
/-! LeaseTells, the table beside the document's. -/
namespace Go.Proofs.Ythcebkbedfaoeaa
open Go.RowKit Go.Lib
set_option linter.unusedVariables false
set_option linter.unusedSimpArgs false

theorem Own.not_mapK {κ : Type} {enc : κ → Value} {e : TypeId} {size n b : Nat} {w : World} {v : Value} {xs : List Value} {ms : List (κ × Value)} (h : Own e size w v n xs) (hm : MapAt enc w b ms) : ¬ Of v b := by
  obtain ⟨es, clock, hb, _⟩ := hm
  intro ho
  rcases h.2 with ⟨rfl, _⟩ | ⟨g, cap, cur, rfl, hg, _⟩
  · exact Of_none ho
  · have := Of_some.1 ho
    simp only at this
    subst this
    rw [hb] at hg
    cases hg
/-- where both stand -/
structure Ph (w0 w : World) (g b gr : Nat) (N : Nat) (l s : Int) (v : Value) (ms : List (K3 × Ls)) (ys : List Ls) : Prop where
  tab : IsTab w g b N l s ms
  ref : IsRef w gr N l s v ys
  fr : Fr No w0 w
  hb : w0.heap.size ≤ b
  hgr : w0.heap.size ≤ gr
  hv : ∀ x, Of v x → w0.heap.size ≤ x
section
variable {w0 w w' : World} {g b gr N : Nat} {l s : Int} {v v' : Value} {ms ms' : List (K3 × Ls)} {ys ys' : List Ls}
theorem Ph.keep (h : Ph w0 w g b gr N l s v ms ys) (hf : Fr No w w') : Ph w0 w' g b gr N l s v ms ys := ⟨h.tab.keep hf, h.ref.keep hf, h.fr.fresh_no hf, h.hb, h.hgr, h.hv⟩
theorem Ph.turn (h : Ph w0 w g b gr N l s v ms ys) (ht : IsTab w' g b N l s ms') (hf : Fr (fun x => x = b) w w') : Ph w0 w' g b gr N l s v ms' ys :=
  ⟨ht, ⟨h.ref.blk.keep hf (h.ref.blk.not_mapK h.tab.map), h.ref.own.keep hf (fun x hx e => h.ref.own.not_mapK h.tab.map (e ▸ hx))⟩, h.fr.fresh hf (fun k e => by rw [e]; exact h.hb), h.hb, h.hgr, h.hv⟩
theorem Ph.turnR (h : Ph w0 w g b gr N l s v ms ys) (hr : IsRef w' gr N l s v' ys') (hf : Fr (fun x => x = gr ∨ Of v x) w w') (hn : ∀ k, Of v' k → Of v k ∨ w.heap.size ≤ k) : Ph w0 w' g b gr N l s v' ms ys' :=
  ⟨h.tab.keep_ hf (fun e => e.elim (fun e => (h.tab.blk.ne_ h.ref.blk (by decide)) e) (fun e => h.ref.own.ne_ h.tab.blk (by decide) e)) (fun e => e.elim (fun e => (h.ref.blk.not_mapK h.tab.map) e.symm) (fun e => h.ref.own.not_mapK h.tab.map e)),
    hr, h.fr.fresh hf (fun k e => e.elim (fun e => by rw [e]; exact h.hgr) (h.hv k)), h.hb, h.hgr, fun x hx => (hn x hx).elim (h.hv x) (fun e => Nat.le_trans h.fr.size e)⟩
end
/-- what they hold -/
structure Pl (N : Nat) (ms : List (K3 × Ls)) (ys : List Ls) : Prop where
  key : Keyed ms
  perm : ys.Perm (ms.map (·.2))
  asc : Asc ys
  nodes : ∀ p ∈ ms, 0 ≤ p.2.node ∧ p.2.node < N
section
variable {N : Nat} {ms : List (K3 × Ls)} {ys : List Ls}
theorem Pl.nil (N : Nat) : Pl N [] [] := ⟨Keyed.nil, List.Perm.refl _, List.Pairwise.nil, by simp⟩
theorem Pl.len (h : Pl N ms ys) : ys.length = ms.length := by have := h.perm.length_eq; simpa using this
theorem Pl.filter (h : Pl N ms ys) (c : Ls → Bool) : Pl N (ms.filter (fun p => c p.2)) (ys.filter c) :=
  ⟨h.key.sub _, by
    have h1 := h.perm.filter c
    rwa [List.filter_map] at h1, h.asc.sublist List.filter_sublist, fun p hp => h.nodes p (List.mem_filter.1 hp).1⟩
theorem Pl.answer (h : Pl N ms ys) (c : Ls → Bool) : (ms.length : Int) - ((ms.filter (fun p => c p.2)).length : Nat) = (ys.length : Int) - ((ys.filter c).length : Nat) := by
  rw [(h.filter c).len, h.len]
theorem Pl.tills (h : Pl N ms ys) : ∀ x ∈ ys, 0 ≤ x.till ∧ x.till ≤ 4611686018427387904 := fun x hx => by
  obtain ⟨p, hp, rfl⟩ := List.mem_map.1 (h.perm.mem_iff.1 hx)
  exact h.key.till p hp
theorem Pl.all (h : Pl N ms ys) {zs : List Ls} (hp : zs.Perm (ms.map (·.2))) (ha : Asc zs) : zs = ys := asc_eq (hp.trans h.perm.symm) ha h.asc (row_keys h.key h.perm)
theorem Pl.put (h : Pl N ms ys) (x : Ls) (hn : 0 ≤ x.node ∧ x.node < N) (ht : 0 ≤ x.till ∧ x.till ≤ 4611686018427387904) {zs : List Ls} (hp : zs.Perm ((putT x.key x ms).map (·.2))) (ha : Asc zs) : Pl N (putT x.key x ms) zs :=
  ⟨h.key.put x ht, hp, ha, fun p hp => by
    rcases mem_putT hp with rfl | ⟨hp, _⟩
    · exact hn
    · exact h.nodes p hp⟩
theorem Pl.grants (h : Pl N ms ys) {w w' : World} {g : Nat} {l s : Int} {v : Value} {node version fn epoch tick : Int} {e : Ending} (hg : GrantR w g N l s v ys node version fn epoch (tick + l) e w') (hn : 0 ≤ node ∧ node < N)
    (ht : 0 ≤ tick ∧ tick ≤ 1099511627776) (hl : 0 ≤ l ∧ l ≤ 1048576) (he0 : 0 ≤ epoch) (hw : (wasOf (node, version, fn) ms).epoch ≤ epoch) :
    e = .returned (.tuple #[.agg #[.int .i64 node, .int .i64 version, .int .i64 fn, .int .i64 epoch, .int .i64 (max (tick + l) (wasOf (node, version, fn) ms).till)], .int .i64 0]) ∧
      ∃ v' zs, IsRef w' g N l s v' zs ∧ Pl N (putT (node, version, fn) ⟨node, version, fn, epoch, max (tick + l) (wasOf (node, version, fn) ms).till⟩ ms) zs ∧ Fr (fun k => k = g ∨ Of v k) w w' ∧ ∀ k, Of v' k → Of v k ∨ w.heap.size ≤ k := by
  obtain ⟨t, htl, hb, hg⟩ := hg
  have htw := h.key.was (node, version, fn)
  rcases hg with ⟨y, hy, h1, h2, hg⟩ | ⟨hnx, rfl, v', hr, hf, hnw⟩
  · obtain ⟨hwas, hset⟩ := grant_same h.key h.perm h.asc hy h1 h2
    have hwas : wasOf (node, version, fn) ms = y := hwas
    rw [hwas] at hw htw ⊢
    rcases hg with ⟨hlt, _⟩ | ⟨_, rfl, v', hr, hf, hnw⟩
    · omega
    · obtain ⟨hp, ha⟩ := hset ⟨node, version, fn, epoch, max (tick + l) y.till⟩ rfl
      exact ⟨rfl, v', _, hr, h.put ⟨node, version, fn, epoch, max (tick + l) y.till⟩ hn ⟨by show 0 ≤ max (tick + l) y.till; omega, by show max (tick + l) y.till ≤ 4611686018427387904; omega⟩ hp ha, hf, hnw⟩
  · obtain ⟨hwas, hp, ha⟩ := grant_new h.key h.perm h.asc hb hnx
    have hwas : wasOf (node, version, fn) ms = zeroX := hwas
    rw [hwas]
    have hm : max (tick + l) zeroX.till = tick + l := by show max (tick + l) 0 = tick + l; omega
    rw [hm]
    exact ⟨rfl, v', _, hr, h.put ⟨node, version, fn, epoch, tick + l⟩ hn ⟨by show 0 ≤ tick + l; omega, by show tick + l ≤ 4611686018427387904; omega⟩ hp ha, hf, hnw⟩
theorem Pl.refuses (h : Pl N ms ys) {w w' : World} {g : Nat} {l s : Int} {v : Value} {node version fn epoch tick : Int} {e : Ending} (hg : GrantR w g N l s v ys node version fn epoch (tick + l) e w') (he0 : 0 ≤ epoch) (hw : epoch < (wasOf (node, version, fn) ms).epoch) :
    e = .returned (.tuple #[zeroL, .int .i64 151]) ∧ Fr No w w' := by
  obtain ⟨t, htl, hb, hg⟩ := hg
  rcases hg with ⟨y, hy, h1, h2, hg⟩ | ⟨hnx, rfl, v', hr, hf, hnw⟩
  · obtain ⟨hwas, hset⟩ := grant_same h.key h.perm h.asc hy h1 h2
    have hwas : wasOf (node, version, fn) ms = y := hwas
    rw [hwas] at hw
    rcases hg with ⟨hlt, he, hf⟩ | ⟨hnl, _⟩
    · exact ⟨he, hf⟩
    · omega
  · obtain ⟨hwas, hp, ha⟩ := grant_new h.key h.perm h.asc hb hnx
    have hwas : wasOf (node, version, fn) ms = zeroX := hwas
    rw [hwas] at hw
    have : epoch < 0 := hw
    omega
end
end Go.Proofs.Ythcebkbedfaoeaa
