import Derived.Test.YtfmoagpfgkokcaaFloorsA
import Derived.Test.YtfmoagpfgkokcaaOps3
/-! CacheFloors: the rows of entries, the world between its steps. -/
namespace Go.Proofs.Ytfmoagpfgkokcaa
open Go.RowKit
set_option linter.unusedVariables false
set_option linter.unusedSimpArgs false

def ecells (l : List Ev) : List Value := rows (fun x : Ev => x.cells.toList) l
theorem ec_len (x : Ev) : x.cells.toList.length = 8 := rfl
theorem ec_one {w : World} {x : Ev} (h : x.ok w) : ∀ u ∈ x.cells.toList, u.oneCell' = true := by
  obtain ⟨A, c, hv⟩ := Ev.slice h
  intro u hu
  simp [Ev.cells] at hu
  rcases hu with rfl | rfl | rfl | rfl | rfl | rfl | rfl
  all_goals first | rfl | (rw [hv]; rfl)
theorem infoE : (Try.prog.info? 28).map (fun i => (i.zero, i.size, i.bytes)) = some (some (.agg #[.int .i64 0, .int .i64 0, .int .i64 0, .int .i64 0, .int .i64 0, .slice none 0 0, .slice none 0 0, .slice none 0 0]), 8, 112) := by kernel_rfl
theorem Rd.entry (w : World) (x : Ev) : Rd 8 (w.alloc (.cells x.cells 28)) (.slice (some ⟨w.heap.size, 0, none⟩) 1 1) 1 x.cells.toList := by
  refine ⟨some ⟨w.heap.size, 0, none⟩, 1, rfl, by omega, rfl, fun _ => ⟨w.heap.size, 0, rfl, by simp, fun j u hu => ?_⟩⟩
  have h := (Blk.new w 28 x.cells).cell j
  rw [Nat.zero_add, h]
  simpa using hu
theorem entry_at {w : World} {g n c : Nat} {l : List Ev} (h : Own 28 8 w (.slice (some ⟨g, 0, none⟩) n c) n (ecells l)) {i : Nat} {x : Ev} (hx : l[i]? = some x) :
    ∀ j, j < 8 → w.cell? ⟨g, i * 8 + j, none⟩ = x.cells.toList[j]? := fun j hj => by
  have h1 := rows_get (c := fun x : Ev => x.cells.toList) (s := 8) ec_len hx j hj
  have h2 : x.cells.toList[j]? = some (x.cells.toList[j]'(by rw [ec_len]; exact hj)) := List.getElem?_eq_getElem _
  rw [h2] at h1 ⊢
  exact Own.cells h (g := g) rfl _ _ h1
theorem Own.not_mapK {κ : Type} {enc : κ → Value} {w : World} {b : Nat} {t : TypeId} {size n : Nat} {v : Value} {xs : List Value} {ms : List (κ × Value)} (h : Own t size w v n xs) (hm : MapAt enc w b ms) : ¬ Of v b := by
  intro hb
  rcases h.2 with ⟨h0, _⟩ | ⟨g', cap, cur, hv, hb', _⟩
  · rw [h0] at hb; exact absurd hb Of_none
  · have hxg : b = g' := by rw [hv] at hb; exact Of_some.1 hb
    subst hxg
    exact Blk.not_mapK (show Blk w b t cur from hb') hm rfl
theorem Ev.ok.keepO {w w' : World} {v : Value} {n : Nat} {xs : List Value} {e : Ev} (h : e.ok w) (ho : Own 28 8 w v n xs) (hf : Fr (Of v) w w') : e.ok w' :=
  ⟨Rd.keep h.1 hf (fun k hk => by
    obtain ⟨l, cs, hb⟩ := h.2.2 k hk
    exact ho.ne_ hb (by decide)), h.2.1, fun x hx => by
    obtain ⟨l, cs, hb⟩ := h.2.2 x hx
    exact ⟨Nat.lt_of_lt_of_le l hf.size, cs, hb.keep hf (ho.ne_ hb (by decide))⟩⟩
theorem IsC.keepO {w w' : World} {g b fb : Nat} {ms : List (K2 × Ev)} {fs : List (Int × Int)} {v : Value} {n : Nat} {xs : List Value} (h : IsC w g b fb ms fs) (ho : Own 28 8 w v n xs) (hf : Fr (Of v) w w') : IsC w' g b fb ms fs :=
  ⟨h.blk.keep hf (ho.ne_ h.blk (by decide)), h.map.keep hf (ho.not_mapK h.map), h.flo.keep hf (ho.not_mapK h.flo), h.two, fun p hp => (h.rows p hp).keepO ho hf⟩
/-- the cache, and the row of the entries that were put -/
structure Fl (w0 w : World) (g b fb : Nat) (v : Value) (L : List Ev) (ms : List (K2 × Ev)) (fs : List (Int × Int)) : Prop where
  c : IsC w g b fb ms fs
  all : Own 28 8 w v L.length (ecells L)
  rows : ∀ e ∈ L, e.ok w
  fr : Fr No w0 w
  nb : w0.heap.size ≤ b
  nfb : w0.heap.size ≤ fb
  nv : ∀ x, Of v x → w0.heap.size ≤ x
section
variable {w0 w w' : World} {g b fb : Nat} {v : Value} {L : List Ev} {ms : List (K2 × Ev)} {fs : List (Int × Int)}
theorem Fl.keep (h : Fl w0 w g b fb v L ms fs) (hf : Fr No w w') : Fl w0 w' g b fb v L ms fs :=
  ⟨h.c.keep hf, h.all.keep hf (fun k _ => not_no k), fun e he => (h.rows e he).keep hf, h.fr.fresh_no hf, h.nb, h.nfb, h.nv⟩
theorem Fl.append (h : Fl w0 w g b fb v L ms fs) {v' : Value} {e : Ev} (he : e.ok w) (ho : Own 28 8 w' v' (L.length + 1) (ecells L ++ e.cells.toList)) (hf : Fr (Of v) w w') (hg : ∀ k, Of v' k → Of v k ∨ w.heap.size ≤ k) :
    Fl w0 w' g b fb v' (L ++ [e]) ms fs :=
  ⟨h.c.keepO h.all hf, by rw [List.length_append, List.length_singleton, ecells, rows_append, rows_one]; exact ho, fun x hx => by
    rcases List.mem_append.1 hx with hx | hx
    · exact (h.rows x hx).keepO h.all hf
    · rw [List.mem_singleton.1 hx]; exact he.keepO h.all hf, h.fr.fresh hf h.nv, h.nb, h.nfb, fun x hx => (hg x hx).elim (h.nv x) (fun h' => Nat.le_trans h.fr.size h')⟩
theorem Fl.store (h : Fl w0 w g b fb v L ms fs) {ms' : List (K2 × Ev)} {fs' : List (Int × Int)} (hc : IsC w' g b fb ms' fs') (hf : Fr (fun x => x = b ∨ x = fb) w w') : Fl w0 w' g b fb v L ms' fs' :=
  ⟨hc, h.all.keep hf (fun k hk e => e.elim (fun e => (h.all.not_mapK h.c.map) (e ▸ hk)) (fun e => (h.all.not_mapK h.c.flo) (e ▸ hk))), fun x hx => (h.rows x hx).keep_ hf (fun z t cs hb e => e.elim (fun e => (hb.not_mapK h.c.map) e) (fun e => (hb.not_mapK h.c.flo) e)), h.fr.fresh hf (fun k hk => hk.elim (fun e => by rw [e]; exact h.nb) (fun e => by rw [e]; exact h.nfb)), h.nb, h.nfb, h.nv⟩
theorem Fl.put (h : Fl w0 w g b fb v L ms fs) {ms' : List (K2 × Ev)} (hc : IsC w' g b fb ms' fs) (hf : Fr (fun x => x = b) w w') : Fl w0 w' g b fb v L ms' fs :=
  h.store hc (hf.mono (fun k _ hk => .inl hk))
end
/-- the entries that were put, one a version -/
def Good (L : List Ev) : Prop := ∀ (j : Nat) (e : Ev), L[j]? = some e → e.ver = j ∧ e.till = 50 ∧ ∃ n, e.needs = [n]
theorem Good.more {L : List Ev} (h : Good L) (ep fn rg n : Int) (nv : Value) : Good (L ++ [⟨L.length, ep, 50, fn, rg, [n], nv⟩]) := fun j e he => by
  rcases Nat.lt_or_ge j L.length with hj | hj
  · rw [List.getElem?_append_left hj] at he
    exact h j e he
  · rw [List.getElem?_append_right hj] at he
    have hj0 : j - L.length = 0 := by
      rcases Nat.eq_zero_or_pos (j - L.length) with h | h
      · exact h
      · rw [List.getElem?_eq_none (by simp; omega)] at he; cases he
    rw [hj0] at he
    have he' : (⟨L.length, ep, 50, fn, rg, [n], nv⟩ : Ev) = e := by simpa using he
    subst he'
    exact ⟨by show (L.length : Int) = j; omega, rfl, n, rfl⟩
/-! ## one floor -/
theorem floor_first (k E : Int) (hE : 0 ≤ E) : putF k (max (floorOf k []) E) [] = [(k, E)] := by
  have : max (floorOf k []) E = E := by show max 0 E = E; omega
  rw [this]; rfl
theorem floor_again (k E p : Int) (hp : p ≤ E) : putF k (max (floorOf k [(k, E)]) p) [(k, E)] = [(k, E)] := by
  have : max (floorOf k [(k, E)]) p = E := by
    have : floorOf k [(k, E)] = E := by simp [floorOf]
    rw [this]; omega
  rw [this]
  simp [putF]
theorem below_one (k E : Int) (e : Ev) : belowB [(k, E)] e = underB e (k, E) := by simp [belowB]
theorem rest_one (k E : Int) (p : K2 × Ev) : restE k E p = belowB [(k, E)] p.2 := by rw [below_one]; rfl
theorem any_count {α : Type} (c : α → Bool) (l : List α) : l.any c = decide ((0 : Int) < (l.length : Int) - ((l.filter (fun p => !c p)).length : Nat)) := by
  have h := List.length_filter_le (fun p => !c p) l
  cases hc : l.any c with
  | false =>
    have h0 : l.filter (fun p => !c p) = l := List.filter_eq_self.2 (fun a ha => by
      have := List.any_eq_false.1 hc a ha
      simp [this])
    rw [h0]
    simp
  | true =>
    obtain ⟨a, ha, hca⟩ := List.any_eq_true.1 hc
    have h1 : (l.filter (fun p => !c p)).length ≠ l.length := fun e => by
      have h2 := List.length_filter_eq_length_iff.1 e a ha
      simp [hca] at h2
    exact (decide_eq_true (by omega)).symm
theorem rests_count (k E : Int) (ms : List (K2 × Ev)) : ms.any (restE k E) = decide ((0 : Int) < (ms.length : Int) - ((ms.filter (fun p => !belowB [(k, E)] p.2)).length : Nat)) := by
  have h : restE k E = fun p => belowB [(k, E)] p.2 := funext (rest_one k E)
  rw [h]
  exact any_count _ ms
section
variable {L : List Ev} {ms : List (K2 × Ev)} {k E : Int}
theorem Holds_.none_rests (h : Holds_ L (fun e => !belowB [(k, E)] e) ms) : ms.any (restE k E) = false ∧ ms.filter (fun p => !belowB [(k, E)] p.2) = ms := by
  have h1 : ∀ p ∈ ms, belowB [(k, E)] p.2 = false := fun p hp => by
    obtain ⟨j, e, _, _, hl, hk⟩ := h.from_ p hp
    rw [below_one, hl.under, ← below_one]
    simpa using hk
  refine ⟨List.any_eq_false.2 (fun p hp => ?_), List.filter_eq_self.2 (fun p hp => by simp [h1 p hp])⟩
  rw [rest_one, h1 p hp]
  simp
/-- is it told? -/
theorem Holds_.has_ (h : Holds_ L (fun e => !belowB [(k, E)] e) ms) {j : Nat} {e : Ev} (he : L[j]? = some e) (ht : e.till = 50) : has ((j : Int), e.fn) 0 ms = !belowB [(k, E)] e := by
  obtain ⟨h1, h2⟩ := h.get he
  unfold has
  rw [h1]
  cases hk : (!belowB [(k, E)] e) with
  | false => rfl
  | true =>
    have := (h2 hk).till
    rw [this, ht]
    rfl
theorem Holds_.elder_ (h : Holds_ L (fun e => !belowB [(k, E)] e) ms) {j : Nat} {e : Ev} (he : L[j]? = some e) (hv : e.ver = j) (hk : belowB [(k, E)] e = false) : elder e ms = false := by
  obtain ⟨h1, h2⟩ := h.get he
  unfold elder
  rw [hv, (h2 (by simp [hk])).ep]
  simp
end
set_option maxRecDepth 100000 in
set_option maxHeartbeats 400000 in
theorem pick_c (x n : Int) (h1 : -9223372036854775808 ≤ x) (h2 : x ≤ 9223372036854775807) (hn : 0 < n) (hn2 : n ≤ 4611686018427387904) (w : World) :
    Calls Try.prog 18 #[.int .i64 x, .int .i64 n] w fun en w' => en = .returned (.int .i64 (x % n)) ∧ w' = w := by
  have hm := Int.emod_nonneg x (show n ≠ 0 by omega)
  have hm2 := Int.emod_lt_of_pos x hn
  have ht : x.tmod n = x % n ∨ (x.tmod n = x % n - n ∧ 0 < x % n) := by
    rw [Int.tmod_eq_emod]
    by_cases h : 0 ≤ x ∨ n ∣ x
    · rw [if_pos h]; left; omega
    · rw [if_neg h]
      have : x % n ≠ 0 := fun e => h (.inr (Int.dvd_of_emod_eq_zero e))
      right; omega
  have HT := hid ht
  clear ht
  have d1 : ¬ n < 1 := by omega
  by_cases hneg : x.tmod n < 0
  · go_enter Try.func18, Try.ntmps18
    go_wp2
    go_ret
    refine ⟨congrArg (fun i => Ending.returned (.int .i64 i)) ?_, rfl⟩
    show wrap64 (x.tmod n + n) = x % n
    have := HT.out
    unfold wrap64
    omega
  · go_enter Try.func18, Try.ntmps18
    go_wp2
    go_ret
    refine ⟨congrArg (fun i => Ending.returned (.int .i64 i)) ?_, rfl⟩
    show x.tmod n = x % n
    have := HT.out
    omega
end Go.Proofs.Ytfmoagpfgkokcaa
