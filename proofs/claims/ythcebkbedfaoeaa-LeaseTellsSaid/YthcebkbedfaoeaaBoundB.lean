import Derived.Test.YthcebkbedfaoeaaBoundA
import Derived.Test.YthcebkbedfaoeaaOpsL
/-! LeaseBound: boxes that are filled; Pick; who holds. -/
namespace Go.Proofs.Ythcebkbedfaoeaa
open Go.RowKit
set_option linter.unusedVariables false
set_option linter.unusedSimpArgs false

set_option maxRecDepth 100000 in
set_option maxHeartbeats 400000 in
theorem pick_c (x n : Int) (h1 : -9223372036854775808 ≤ x) (h2 : x ≤ 9223372036854775807) (hn : 0 < n) (hn2 : n ≤ 4611686018427387904) (w : World) :
    Calls Try.prog 17 #[.int .i64 x, .int .i64 n] w fun en w' => en = .returned (.int .i64 (x % n)) ∧ w' = w := by
  have hm := Int.emod_nonneg x (show n ≠ 0 by omega)
  have hm2 := Int.emod_lt_of_pos x hn
  have ht : x.tmod n = x % n ∨ (x.tmod n = x % n - n ∧ 0 < x % n) := by
    rw [Int.tmod_eq_emod]
    by_cases h : 0 ≤ x ∨ n ∣ x
    · rw [if_pos h]; left; omega
    · rw [if_neg h]
      have : x % n ≠ 0 := fun e => h (.inr (Int.dvd_of_emod_eq_zero e))
      right; omega
  have HT := hid ht
  clear ht
  have d1 : ¬ n < 1 := by omega
  by_cases hneg : x.tmod n < 0
  · go_enter Try.func17, Try.ntmps17
    go_wp2
    go_ret
    refine ⟨congrArg (fun i => Ending.returned (.int .i64 i)) ?_, rfl⟩
    show wrap64 (x.tmod n + n) = x % n
    have := HT.out
    unfold wrap64
    omega
  · go_enter Try.func17, Try.ntmps17
    go_wp2
    go_ret
    refine ⟨congrArg (fun i => Ending.returned (.int .i64 i)) ?_, rfl⟩
    show x.tmod n = x % n
    have := HT.out
    omega
abbrev put5 (w : World) (b : Nat) (v0 v1 v2 v3 v4 : Value) : World :=
  ((((w.setCell ⟨b, 0, none⟩ v0).setCell ⟨b, 1, none⟩ v1).setCell ⟨b, 2, none⟩ v2).setCell ⟨b, 3, none⟩ v3).setCell ⟨b, 4, none⟩ v4
theorem Fr.fresh5 {S : Nat → Prop} {w0 w : World} {b : Nat} (h : Fr S w0 w) (hb : w0.heap.size ≤ b) (v0 v1 v2 v3 v4 : Value) : Fr S w0 (put5 w b v0 v1 v2 v3 v4) := by
  unfold put5
  iterate 5 refine Fr.setCell (S := S) ?_ (fun h' => absurd (show b < w0.heap.size from h') (by omega)) _
  exact h
theorem Fr.one5 (w : World) (b : Nat) (v0 v1 v2 v3 v4 : Value) : Fr (fun x => x = b) w (put5 w b v0 v1 v2 v3 v4) := by
  have h0 : Fr (fun x => x = b) w w := Fr.refl _ _
  exact ((((h0.setCell (p := ⟨b, 0, none⟩) (fun _ => rfl) v0).setCell (p := ⟨b, 1, none⟩) (fun _ => rfl) v1).setCell (p := ⟨b, 2, none⟩) (fun _ => rfl) v2).setCell (p := ⟨b, 3, none⟩) (fun _ => rfl) v3).setCell (p := ⟨b, 4, none⟩) (fun _ => rfl) v4
theorem Blk.put5_ {w : World} {b : Nat} {t : TypeId} {u0 u1 u2 u3 u4 : Value} (h : Blk w b t #[u0, u1, u2, u3, u4]) (v0 v1 v2 v3 v4 : Value) : Blk (put5 w b v0 v1 v2 v3 v4) b t #[v0, v1, v2, v3, v4] := by
  have this := ((((h.set_ 0 v0).set_ 1 v1).set_ 2 v2).set_ 3 v3).set_ 4 v4
  simp only [List.setIfInBounds_toArray, List.set_cons_zero, List.set_cons_succ] at this
  exact this
/-- a lease that was granted, in a box of its own -/
structure Gr (V w : World) (g b xb : Nat) (n l s : Int) (ms : List (K3 × Ls)) (x : Ls) : Prop where
  new : V.heap.size ≤ xb
  tab : IsTab w g b n l s ms
  fr : Fr (fun x => x = b) V w
  box : Blk w xb 30 x.cells
theorem Gr.set {V w5 : World} {g b xb : Nat} {n l s : Int} {ms : List (K3 × Ls)} {u0 u1 u2 u3 u4 : Value} {a0 a1 a2 a3 a4 : Int} (hT : IsTab w5 g b n l s ms) (hf : Fr (fun x => x = b) V w5) (hb : Blk w5 xb 30 #[u0, u1, u2, u3, u4]) (hx : V.heap.size ≤ xb) (hV : b < V.heap.size) :
    Gr V (put5 w5 xb (.int .i64 a0) (.int .i64 a1) (.int .i64 a2) (.int .i64 a3) (.int .i64 a4)) g b xb n l s ms ⟨a0, a1, a2, a3, a4⟩ :=
  ⟨hx, hT.keep_ (Fr.one5 _ _ _ _ _ _ _) (hT.blk.ne_ hb (by decide)) (fun e => by omega), hf.fresh5 hx _ _ _ _ _, Blk.put5_ hb _ _ _ _ _⟩
theorem Gr.mk_ {V w5 : World} {g b : Nat} {n l s : Int} {ms : List (K3 × Ls)} {a0 a1 a2 a3 a4 : Int} (hT : IsTab w5 g b n l s ms) (hf : Fr (fun x => x = b) V w5) :
    Gr V (w5.alloc (.cells #[.int .i64 a0, .int .i64 a1, .int .i64 a2, .int .i64 a3, .int .i64 a4] 30)) g b w5.heap.size n l s ms ⟨a0, a1, a2, a3, a4⟩ :=
  ⟨hf.size, hT.keep ((Fr.refl No w5).alloc _), hf.alloc _, Blk.new _ _ _⟩
/-- what lies between two rounds -/
structure Bd (w w1 wr : World) (g b : Nat) (l s : Int) (v : Value) (G : List Ls) (ms : List (K3 × Ls)) (tick r0 r1 r2 : Int) : Prop where
  tab : IsTab wr g b 4 l s ms
  fr : Fr No w wr
  later : w1.heap.size ≤ wr.heap.size
  what : Blk wr (w.heap.size + 1) 49 #[.int .i64 r0, .int .i64 r1, .int .i64 r2]
  row : Own 30 5 wr v G.length (lcells G)
  new : ∀ x, Of v x → w1.heap.size ≤ x
  inv : Inv ms G s tick
section
variable {w w1 V wc : World} {g b xb : Nat} {l s : Int} {v : Value} {G : List Ls} {ms ms' : List (K3 × Ls)} {tick tick' r0 r1 r2 : Int} {x : Ls}
theorem Bd.keep (h : Bd w w1 V g b l s v G ms tick r0 r1 r2) (hf : Fr No V wc) : Bd w w1 wc g b l s v G ms tick r0 r1 r2 :=
  ⟨h.tab.keep hf, h.fr.fresh_no hf, Nat.le_trans h.later hf.size, h.what.keep hf (not_no _), h.row.keep hf (fun _ _ => not_no _), h.new, h.inv⟩
/-- the table has turned -/
theorem Bd.turn (h : Bd w w1 V g b l s v G ms tick r0 r1 r2) (hsb : w.heap.size + 2 ≤ b) (hb1 : b < w1.heap.size) (hT : IsTab wc g b 4 l s ms') (hf : Fr (fun x => x = b) V wc) (hI : Inv ms' G s tick') : Bd w w1 wc g b l s v G ms' tick' r0 r1 r2 :=
  ⟨hT, h.fr.fresh hf (fun x e => by rw [e]; omega), Nat.le_trans h.later hf.size, h.what.keep hf (fun e => by omega), h.row.keep hf (fun x hx e => by have := h.new x hx; omega), h.new, hI⟩
theorem Bd.ticked (h : Bd w w1 V g b l s v G ms tick r0 r1 r2) (ht : tick ≤ tick') : Bd w w1 V g b l s v G ms tick' r0 r1 r2 :=
  ⟨h.tab, h.fr, h.later, h.what, h.row, h.new, h.inv.later ht⟩
/-- an array of its own is written -/
theorem Bd.hold (h : Bd w w1 V g b l s v G ms tick r0 r1 r2) {hb : Nat} {cs : Array Value} (hx : Blk V hb 50 cs) (hw : w.heap.size ≤ hb) (hf : Fr (fun x => x = hb) V wc) : Bd w w1 wc g b l s v G ms tick r0 r1 r2 :=
  ⟨h.tab.keep_ hf (h.tab.blk.ne_ hx (by decide)) (fun e => (hx.not_mapK h.tab.map) e.symm), h.fr.fresh hf (fun x e => by rw [e]; exact hw), Nat.le_trans h.later hf.size, h.what.keep hf (h.what.ne_ hx (by decide)), h.row.keep hf (fun x hk e => (h.row.ne_ hx (by decide)) (e ▸ hk)), h.new, h.inv⟩
/-- a lease is appended -/
theorem Bd.append (hT : IsTab V g b 4 l s ms) (hF : Fr No w V) (hL : w1.heap.size ≤ V.heap.size) (hW : Blk V (w.heap.size + 1) 49 #[.int .i64 r0, .int .i64 r1, .int .i64 r2]) (hR : Own 30 5 V v G.length (lcells G)) (hN : ∀ x, Of v x → w1.heap.size ≤ x)
    (hb1 : b < w1.heap.size) (hw1 : w.heap.size ≤ w1.heap.size) {v' : Value} (ho : Own 30 5 wc v' (G.length + 1) (lcells G ++ x.cells.toList)) (hf : Fr (Of v) V wc) (hg : ∀ k, Of v' k → Of v k ∨ k = V.heap.size) (hI : Inv ms (G ++ [x]) s tick) :
    Bd w w1 wc g b l s v' (G ++ [x]) ms tick r0 r1 r2 :=
  ⟨hT.keep_ hf (hR.ne_ hT.blk (by decide)) (fun e => by have := hN b e; omega), hF.fresh hf (fun k hk => Nat.le_trans hw1 (hN k hk)), Nat.le_trans hL hf.size, hW.keep hf (hR.ne_ hW (by decide)), by rw [List.length_append, List.length_singleton, lcells, rows_append, rows_one]; exact ho,
    fun k hk => (hg k hk).elim (hN k) (fun e => by rw [e]; exact hL), hI⟩
end
/-! ## who holds -/
def heldBy (zs : List Int) : Array Value := #[.bool (decide ((0 : Int) ∈ zs)), .bool (decide ((1 : Int) ∈ zs)), .bool (decide ((2 : Int) ∈ zs)), .bool (decide ((3 : Int) ∈ zs))]
theorem heldBy_get (zs : List Int) {n : Nat} (h : n < 4) : (heldBy zs)[n]? = some (.bool (decide ((n : Int) ∈ zs))) := by
  have : n = 0 ∨ n = 1 ∨ n = 2 ∨ n = 3 := by omega
  rcases this with rfl | rfl | rfl | rfl <;> rfl
theorem heldBy_set (zs : List Int) {n : Nat} (h : n < 4) : (heldBy zs).setIfInBounds n (.bool true) = heldBy (zs ++ [(n : Int)]) := by
  have : n = 0 ∨ n = 1 ∨ n = 2 ∨ n = 3 := by omega
  rcases this with rfl | rfl | rfl | rfl <;> simp [heldBy]
theorem heldBy_nil : heldBy [] = #[.bool false, .bool false, .bool false, .bool false] := rfl
theorem later_of {G : List Ls} {x : Ls} (h : ∃ y ∈ G, y.node = x.node ∧ y.version = x.version ∧ y.fn = x.fn ∧ x.epoch < y.epoch) : G.any (Go.Proofs.Ythcebkbedfaoeaa.later x) = true := by
  obtain ⟨y, hy, h1, h2, h3, h4⟩ := h
  refine List.any_eq_true.2 ⟨y, hy, ?_⟩
  unfold Go.Proofs.Ythcebkbedfaoeaa.later
  simp [h1, h2, h3, h4]
theorem nodes_bnd {ms : List (K3 × Ls)} {G : List Ls} {s tick : Int} (h : Inv ms G s tick) (epoch t : Int) {z : Int} (hz : z ∈ holdersL epoch s t ms) : 0 ≤ z ∧ z < 4 := by
  rw [mem_holders] at hz
  unfold nodesOf at hz
  obtain ⟨p, hp, rfl⟩ := List.mem_map.1 hz
  have := h.bnd _ (h.mem p (List.mem_filter.1 hp).1)
  exact ⟨this.1, this.2.1⟩
end Go.Proofs.Ythcebkbedfaoeaa
