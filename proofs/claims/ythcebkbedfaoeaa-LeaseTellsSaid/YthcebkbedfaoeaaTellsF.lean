import Derived.Test.YthcebkbedfaoeaaTellsE
import Derived.Test.YthcebkbedfaoeaaTellsG
import Derived.Test.YthcebkbedfaoeaaHeldF
import Derived.BigRegion
import Derived.Deep.RegionLaw
/-! LeaseTells, part six: the document's Grant, where it grants. -/
namespace Go.Proofs.Ythcebkbedfaoeaa
open Go.RowKit Go.Lib
set_option linter.unusedVariables false
set_option linter.unusedSimpArgs false
attribute [local go_sem ↓] Go.wp_at_zero Go.wp_at_succ
/-- the row, the result's box, the lease's box -/
structure Gn (w0 w : World) (g : Nat) (n l s : Int) (v : Value) (ys : List Ls) (rb xb : Nat) (x : Ls) : Prop where
  ref : IsRef w g n l s v ys
  res : Blk w rb 30 #[.int .i64 0, .int .i64 0, .int .i64 0, .int .i64 0, .int .i64 0]
  box : Blk w xb 30 x.cells
  fr : Fr No w0 w
theorem Gn.keep {w0 w w' : World} {g : Nat} {n l s : Int} {v : Value} {ys : List Ls} {rb xb : Nat} {x : Ls} (h : Gn w0 w g n l s v ys rb xb x) (hf : Fr No w w') : Gn w0 w' g n l s v ys rb xb x := ⟨h.ref.keep hf, h.res.keep hf (not_no _), h.box.keep hf (not_no _), h.fr.fresh_no hf⟩
theorem Gn.till {w0 w : World} {g : Nat} {n l s : Int} {v : Value} {ys : List Ls} {rb xb : Nat} {x : Ls} (h : Gn w0 w g n l s v ys rb xb x) (hg : g < w0.heap.size) (hv : ∀ k, Of v k → k < w0.heap.size) (hr : rb ≠ xb) (hx : w0.heap.size ≤ xb) (m : Int) :
    Gn w0 (w.setCell ⟨xb, 4, none⟩ (.int .i64 m)) g n l s v ys rb xb ⟨x.node, x.version, x.fn, x.epoch, m⟩ :=
  have hf : Fr (fun k => k = xb) w (w.setCell ⟨xb, 4, none⟩ (.int .i64 m)) := Fr.setCell (S := fun k => k = xb) (Fr.refl _ w) (p := ⟨xb, 4, none⟩) (fun _ => rfl) _
  ⟨⟨h.ref.blk.keep hf (fun e => by omega), h.ref.own.keep hf (fun k hk e => by have := hv k hk; omega)⟩, h.res.keep hf hr, h.box.set_ 4 _, h.fr.fresh hf (fun k e => by rw [e]; exact hx)⟩
theorem lcells_one (l : List Ls) : ∀ u ∈ lcells l, u.oneCell' = true := fun u hu => by
  unfold lcells rows at hu
  obtain ⟨x, _, h⟩ := List.mem_flatMap.1 hu
  exact lc_one x u h
theorem lcells_set : ∀ (ys : List Ls) (t : Nat) (x : Ls), lcells (ys.set t x) = (((((lcells ys).set (t * 5) (.int .i64 x.node)).set (t * 5 + 1) (.int .i64 x.version)).set (t * 5 + 2) (.int .i64 x.fn)).set (t * 5 + 3) (.int .i64 x.epoch)).set (t * 5 + 4) (.int .i64 x.till)
  | [], t, x => rfl
  | y :: r, 0, x => rfl
  | y :: r, t + 1, x => by
    have h := lcells_set r t x
    show x.cells.toList.drop 5 ++ (y.cells.toList ++ lcells (r.set t x)) = _
    rw [h]
    have e0 : (t + 1) * 5 = t * 5 + 5 := by omega
    rw [e0]
    rfl
/-- a lease is set -/
theorem Gn.put {w0 w : World} {g gA c : Nat} {n l s : Int} {ys : List Ls} {rb xb : Nat} {x : Ls} (h : Gn w0 w g n l s (.slice (some ⟨gA, 0, none⟩) ys.length c) ys rb xb x) (hA : gA < w0.heap.size) (hr : w0.heap.size ≤ rb) (hx : w0.heap.size ≤ xb) (t : Nat) (y : Ls) (W : World)
    (hW : W = ((((w.setCell ⟨gA, t * 5, none⟩ (.int .i64 y.node)).setCell ⟨gA, t * 5 + 1, none⟩ (.int .i64 y.version)).setCell ⟨gA, t * 5 + 2, none⟩ (.int .i64 y.fn)).setCell ⟨gA, t * 5 + 3, none⟩ (.int .i64 y.epoch)).setCell ⟨gA, t * 5 + 4, none⟩ (.int .i64 y.till)) :
    IsRef W g n l s (.slice (some ⟨gA, 0, none⟩) ys.length c) (ys.set t y) ∧ Blk W rb 30 #[.int .i64 0, .int .i64 0, .int .i64 0, .int .i64 0, .int .i64 0] ∧ Blk W xb 30 x.cells ∧ Fr (fun k => k = gA) w0 W := by
  have hf : Fr (fun k => k = gA) w W := by
    rw [hW]
    iterate 5 refine Fr.setCell (S := fun k => k = gA) ?_ (fun _ => rfl) _
    exact Fr.refl _ _
  have ho := ((((h.ref.own.set (t * 5) (.int .i64 y.node)).set (t * 5 + 1) (.int .i64 y.version)).set (t * 5 + 2) (.int .i64 y.fn)).set (t * 5 + 3) (.int .i64 y.epoch)).set (t * 5 + 4) (.int .i64 y.till)
  rw [← lcells_set, ← hW] at ho
  refine ⟨⟨h.ref.blk.keep hf (fun e => (h.ref.own.ne_ h.ref.blk (by decide)) (e ▸ Of_some.2 rfl)), by rw [List.length_set]; exact ho⟩, h.res.keep hf (fun e => by omega), h.box.keep hf (fun e => by omega), (h.fr.mono (fun k _ hk => absurd hk (not_no k))).trans hf (fun k _ hk => hk)⟩
theorem IsRef.far {w w' : World} {g rb : Nat} {n l s : Int} {v : Value} {ys : List Ls} (h : IsRef w g n l s v ys) (hf : Fr (fun k => k = rb) w w') (h1 : g ≠ rb) (h2 : ∀ k, Of v k → k ≠ rb) : IsRef w' g n l s v ys := ⟨h.blk.keep hf h1, h.own.keep hf (fun k hk e => h2 k hk e)⟩
theorem Fr.box {S : Nat → Prop} {w V W : World} {rb : Nat} (h : Fr S w V) (hf : Fr (fun k => k = rb) V W) (hrb : w.heap.size ≤ rb) : Fr S w W := h.trans hf (fun k hk e => by omega)
/-- what the document's Grant answers, and what it leaves -/
def GrantR (w : World) (g : Nat) (n l s : Int) (v : Value) (ys : List Ls) (node version fn epoch til : Int) (e : Ending) (w' : World) : Prop :=
  ∃ t, t ≤ ys.length ∧ (∀ y ∈ ys.take t, ltOf cmpL y ⟨node, version, fn, epoch, til⟩ = true) ∧
    ((∃ y, ys[t]? = some y ∧ ltOf cmpL y ⟨node, version, fn, epoch, til⟩ = false ∧ ltOf cmpL ⟨node, version, fn, epoch, til⟩ y = false ∧
      ((epoch < y.epoch ∧ e = .returned (.tuple #[zeroL, .int .i64 151]) ∧ Fr No w w') ∨
       (¬ epoch < y.epoch ∧ e = .returned (.tuple #[.agg #[.int .i64 node, .int .i64 version, .int .i64 fn, .int .i64 epoch, .int .i64 (max til y.till)], .int .i64 0]) ∧
        ∃ v', IsRef w' g n l s v' (ys.set t ⟨node, version, fn, epoch, max til y.till⟩) ∧ Fr (fun k => k = g ∨ Of v k) w w' ∧ ∀ k, Of v' k → Of v k ∨ w.heap.size ≤ k))) ∨
     ((∀ y, ys[t]? = some y → ltOf cmpL ⟨node, version, fn, epoch, til⟩ y = true) ∧ e = .returned (.tuple #[.agg #[.int .i64 node, .int .i64 version, .int .i64 fn, .int .i64 epoch, .int .i64 til], .int .i64 0]) ∧
        ∃ v', IsRef w' g n l s v' (ys.take t ++ [⟨node, version, fn, epoch, til⟩] ++ ys.drop t) ∧ Fr (fun k => k = g ∨ Of v k) w w' ∧ ∀ k, Of v' k → Of v k ∨ w.heap.size ≤ k))
theorem rd_take {w : World} {A : Option Addr} {c : Nat} {ys : List Ls} (h : Own 30 5 w (.slice A ys.length c) ys.length (lcells ys)) {t : Nat} (ht : t ≤ ys.length) (hc : t ≤ c) : Rd 5 w (.slice A t c) t (lcells (ys.take t)) := by
  rw [lcells_take]
  exact h.rd.take ht hc
theorem rd_drop {w : World} {gA : Nat} {c : Nat} {ys : List Ls} (h : Own 30 5 w (.slice (some ⟨gA, 0, none⟩) ys.length c) ys.length (lcells ys)) {t : Nat} (ht : t ≤ ys.length) (hc : ys.length ≤ c) :
    Rd 5 w (.slice (if c = t then some ⟨gA, 0, none⟩ else some ⟨gA, t * 5, none⟩) (ys.length - t) (c - t)) (ys.length - t) (lcells (ys.drop t)) := by
  rw [lcells_drop]
  have h2 := h.rd.drop (m := t) (c' := c - t) ht (by omega)
  have e : (if c = t then some (⟨gA, 0, none⟩ : Addr) else Option.map (fun x : Addr => x.add (t * 5)) (some ⟨gA, 0, none⟩)) = if c = t then some ⟨gA, 0, none⟩ else some ⟨gA, t * 5, none⟩ := by
    split
    · rfl
    · simp only [Option.map_some, Addr.add]
      split
      · rename_i h0; rw [h0]
      · simp
  rwa [e] at h2
theorem lcells_mid (a b : List Ls) (x : Ls) : [] ++ lcells a ++ x.cells.toList ++ lcells b = lcells (a ++ [x] ++ b) := by
  unfold lcells
  rw [rows_append, rows_append, rows_one, List.nil_append]
/-- the row laid anew -/
theorem IsRef.anew {w0 w : World} {g : Nat} {n l s : Int} {v v' : Value} {ys zs : List Ls} (h : IsRef w g n l s v ys) (ho : Own 30 5 w v' zs.length (lcells zs)) (hg : g < w0.heap.size) (hn : ∀ k, Of v' k → w0.heap.size ≤ k) : IsRef (w.setCell ⟨g, 3, none⟩ v') g n l s v' zs :=
  ⟨h.blk.set_ 3 v', ho.keep (Fr.setCell (S := fun k => k = g) (Fr.refl _ w) (p := ⟨g, 3, none⟩) (fun _ => rfl) v') (fun k hk e => by have := hn k hk; omega)⟩
set_option maxRecDepth 100000 in
set_option maxHeartbeats 4000000 in
theorem rgrant_c {w : World} {g : Nat} {n l s : Int} {v : Value} {ys : List Ls} (h : IsRef w g n l s v ys) (hl : ys.length ≤ 100000) (node version fn epoch tick : Int) (hn : 0 ≤ node ∧ node < n) (hv : 0 ≤ version ∧ version ≤ 1099511627776) (hf : 0 ≤ fn ∧ fn ≤ 1099511627776)
    (he : 0 ≤ epoch ∧ epoch ≤ 1099511627776) (ht : 0 ≤ tick ∧ tick ≤ 1099511627776) (hlb : 0 ≤ l ∧ l ≤ 1048576) :
    Calls Try.prog 20 #[.pointer (some ⟨g, 0, none⟩), .int .i64 node, .int .i64 version, .int .i64 fn, .int .i64 epoch, .int .i64 tick] w (GrantR w g n l s v ys node version fn epoch (tick + l)) := by
  have bad0 : ∀ (x : Int) (w : World), (0 ≤ x ∧ x ≤ 1099511627776) → Calls Try.prog 38 #[.int .i64 x] w fun e w' => e = .returned (.bool false) ∧ w' = w := fun x w hx => by
    have := bad_c w x
    rwa [show decide (x < 0 ∨ 1099511627776 < x) = false from decide_eq_false (by omega)] at this
  have B0 := hid bad0
  have d1 : ¬ node < 0 := by omega
  have d2 : ¬ n ≤ node := by omega
  have FW := hid ((Fr.refl No w).alloc (.cells #[.int .i64 0, .int .i64 0, .int .i64 0, .int .i64 0, .int .i64 0] 30))
  have H := hid (h.keep FW.out)
  obtain ⟨c0, c1, c2, c3, cf⟩ := H.out.blk.four
  have HVL := hid (show ∀ x, Of v x → x < w.heap.size from Own.lt h.own)
  have HGL := hid h.blk.lt
  obtain ⟨A, c, rfl, hc, _⟩ := h.own.slice
  clear h bad0
  go_enter Try.func20, Try.ntmps20
  go_wp2_with fail
  refine (B0.out version _ hv).mono ?_
  rintro e wx ⟨rfl, rfl⟩
  go_wp2_with fail
  refine (B0.out fn _ hf).mono ?_
  rintro e wx ⟨rfl, rfl⟩
  go_wp2_with fail
  refine (B0.out epoch _ he).mono ?_
  rintro e wx ⟨rfl, rfl⟩
  go_wp2_with fail
  refine (B0.out tick _ ht).mono ?_
  rintro e wx ⟨rfl, rfl⟩
  go_wp2_with fail
  have HG0 := hid (show Gn w ((w.alloc (.cells #[.int .i64 0, .int .i64 0, .int .i64 0, .int .i64 0, .int .i64 0] 30)).alloc (.cells #[.int .i64 node, .int .i64 version, .int .i64 fn, .int .i64 epoch, .int .i64 (tick + l)] 30)) g n l s (.slice A ys.length c) ys w.heap.size (w.heap.size + 1) ⟨node, version, fn, epoch, tick + l⟩ from
    ⟨H.out.keep ((Fr.refl No _).alloc _), (Blk.new w _ _).keep ((Fr.refl No _).alloc _) (not_no _), by
      have h := Blk.new (w.alloc (.cells #[.int .i64 0, .int .i64 0, .int .i64 0, .int .i64 0, .int .i64 0] 30)) 30 #[.int .i64 node, .int .i64 version, .int .i64 fn, .int .i64 epoch, .int .i64 (tick + l)]
      rwa [show (w.alloc (.cells #[.int .i64 0, .int .i64 0, .int .i64 0, .int .i64 0, .int .i64 0] 30)).heap.size = w.heap.size + 1 by simp] at h, FW.out.alloc _⟩)
  have HRB := hid (show w.heap.size ≤ w.heap.size ∧ w.heap.size ≤ w.heap.size + 1 by omega)
  generalize hrb : w.heap.size = rb at HG0 HRB ⊢
  have HRE := hid hrb
  generalize hxb : rb + 1 = xb at HG0 HRB ⊢
  have HXE := hid hxb
  clear hrb hxb c0 c1 c2 c3 cf H B0
  go_loopg [15] ys.length (fun q v15 w' => ∃ t : Nat, v15 = .int .i64 t ∧ t ≤ ys.length ∧ q = ys.length - t ∧ Hid (∀ y ∈ ys.take t, ltOf cmpL y ⟨node, version, fn, epoch, tick + l⟩ = true) ∧ Hid (Gn w w' g n l s (.slice A ys.length c) ys rb xb ⟨node, version, fn, epoch, tick + l⟩))
  case atStart => exact ⟨0, rfl, Nat.zero_le _, rfl, (fun y hy => by simp at hy), HG0⟩
  case round =>
    clear HG0
    obtain ⟨t, rfl, htl, hq, HB, HG⟩ := hrel
    have HQ := hid hq
    clear hq
    by_cases d3 : t < ys.length
    · have d4 : (t : Int) < ys.length := by omega
      have hx : ys[t]? = some ys[t] := List.getElem?_eq_getElem d3
      generalize ys[t] = y at hx
      obtain ⟨gA, rfl, _, _⟩ := rlease_at HG.out.ref.own hx
      have HX := hid hx
      clear hx
      obtain ⟨b0, b1, b2, b3, b4⟩ := y
      have KS := hid (show ∀ w', Fr No wr w' → w'.cell? ⟨g, 3, none⟩ = some (.slice (some ⟨gA, 0, none⟩) ys.length c) ∧ w'.cell? ⟨xb, 0, none⟩ = some (.int .i64 node) ∧ w'.cell? ⟨xb, 1, none⟩ = some (.int .i64 version) ∧ w'.cell? ⟨xb, 2, none⟩ = some (.int .i64 fn) ∧ w'.cell? ⟨xb, 3, none⟩ = some (.int .i64 epoch) ∧ w'.cell? ⟨xb, 4, none⟩ = some (.int .i64 (tick + l)) ∧ w'.cell? ⟨gA, t * 5, none⟩ = some (.int .i64 b0) ∧ w'.cell? ⟨gA, t * 5 + 1, none⟩ = some (.int .i64 b1) ∧ w'.cell? ⟨gA, t * 5 + 2, none⟩ = some (.int .i64 b2) ∧ w'.cell? ⟨gA, t * 5 + 3, none⟩ = some (.int .i64 b3) ∧ w'.cell? ⟨gA, t * 5 + 4, none⟩ = some (.int .i64 b4) from fun w' hf => by
        have q := HG.out.keep hf
        obtain ⟨_, _, _, e3, _⟩ := q.ref.blk.four
        obtain ⟨gB, hgB, _, m0, m1, m2, m3, m4⟩ := rlease_at q.ref.own HX.out
        injection hgB with hgB
        injection hgB with hgB
        subst hgB
        exact ⟨e3, q.box.cell 0, q.box.cell 1, q.box.cell 2, q.box.cell 3, q.box.cell 4, m0, m1, m2, m3, m4⟩)
      rcases hlt : ltOf cmpL ⟨b0, b1, b2, b3, b4⟩ ⟨node, version, fn, epoch, tick + l⟩ with _ | _
      · have HLT := hid hlt
        clear hlt
        go_upto_region 7 with fail
        refine wp_region_held_drew (S := (fun w' => w'.cell? ⟨g, 3, none⟩ = some (.slice (some ⟨gA, 0, none⟩) ys.length c) ∧ w'.cell? ⟨xb, 0, none⟩ = some (.int .i64 node) ∧ w'.cell? ⟨xb, 1, none⟩ = some (.int .i64 version) ∧ w'.cell? ⟨xb, 2, none⟩ = some (.int .i64 fn) ∧ w'.cell? ⟨xb, 3, none⟩ = some (.int .i64 epoch) ∧ w'.cell? ⟨xb, 4, none⟩ = some (.int .i64 (tick + l)) ∧ w'.cell? ⟨gA, t * 5, none⟩ = some (.int .i64 b0) ∧ w'.cell? ⟨gA, t * 5 + 1, none⟩ = some (.int .i64 b1) ∧ w'.cell? ⟨gA, t * 5 + 2, none⟩ = some (.int .i64 b2) ∧ w'.cell? ⟨gA, t * 5 + 3, none⟩ = some (.int .i64 b3) ∧ w'.cell? ⟨gA, t * 5 + 4, none⟩ = some (.int .i64 b4))) (by kernel_rfl) ?_ (fun hHeld => ?_)
        · (try dsimp only)
          (refine KS.out _ ?_; with_reducible first | exact HFN.out | exact HFN.out.drew | exact (Fr.refl _ wr).drew | exact Fr.refl _ wr)
        refine wpAnyH_take (i := 0) (oi := ⟨_, _, _, _, _, _⟩) (v := ?_) rfl (by kernel_rfl) (by kernel_rfl) (by kernel_rfl) (fun _ _ _ h => h) (Or.inl ⟨by rfl, ?_⟩) (by assumption) ?_
        rotate_left
        · (intro w hSw; (try dsimp only at hSw); go_simp)
          try with_reducible rfl
        try simp only [Act.put, List.setIfInBounds_toArray, List.set_cons_zero, List.set_cons_succ]
        refine wpAnyH_take (i := 1) (oi := ⟨_, _, _, _, _, _⟩) (v := ?_) rfl (by kernel_rfl) (by kernel_rfl) (by kernel_rfl) (fun _ _ _ h => h) (Or.inl ⟨by rfl, ?_⟩) (by assumption) ?_
        rotate_left
        · (intro w hSw; (try dsimp only at hSw); go_simp)
          try with_reducible rfl
        try simp only [Act.put, List.setIfInBounds_toArray, List.set_cons_zero, List.set_cons_succ]
        refine wpAnyH_take (i := 2) (oi := ⟨_, _, _, _, _, _⟩) (v := ?_) rfl (by kernel_rfl) (by kernel_rfl) (by kernel_rfl) (fun _ _ _ h => h) (Or.inl ⟨by rfl, ?_⟩) (by assumption) ?_
        rotate_left
        · (intro w hSw; (try dsimp only at hSw); go_simp)
          try with_reducible rfl
        try simp only [Act.put, List.setIfInBounds_toArray, List.set_cons_zero, List.set_cons_succ]
        refine wpAnyH_take (i := 3) (oi := ⟨_, _, _, _, _, _⟩) (v := ?_) rfl (by kernel_rfl) (by kernel_rfl) (by kernel_rfl) (fun _ _ _ h => h) (Or.inl ⟨by rfl, ?_⟩) (by assumption) ?_
        rotate_left
        · (intro w hSw; (try dsimp only at hSw); go_simp)
          try with_reducible rfl
        try simp only [Act.put, List.setIfInBounds_toArray, List.set_cons_zero, List.set_cons_succ]
        refine wpAnyH_take (i := 4) (oi := ⟨_, _, _, _, _, _⟩) (v := ?_) rfl (by kernel_rfl) (by kernel_rfl) (by kernel_rfl) (fun _ _ _ h => h) (Or.inl ⟨by rfl, ?_⟩) (by assumption) ?_
        rotate_left
        · (intro w hSw; (try dsimp only at hSw); go_simp)
          try with_reducible rfl
        try simp only [Act.put, List.setIfInBounds_toArray, List.set_cons_zero, List.set_cons_succ]
        refine wpAnyH_take (i := 5) (oi := ⟨_, _, _, _, _, _⟩) (v := ?_) rfl (by kernel_rfl) (by kernel_rfl) (by kernel_rfl) (fun _ _ _ h => h) (Or.inl ⟨by rfl, ?_⟩) (by assumption) ?_
        rotate_left
        · (intro w hSw; (try dsimp only at hSw); go_simp)
          try with_reducible rfl
        try simp only [Act.put, List.setIfInBounds_toArray, List.set_cons_zero, List.set_cons_succ]
        refine wpAnyH_take (i := 6) (oi := ⟨_, _, _, _, _, _⟩) (v := ?_) rfl (by kernel_rfl) (by kernel_rfl) (by kernel_rfl) (fun _ _ _ h => h) (Or.inl ⟨by rfl, ?_⟩) (by assumption) ?_
        rotate_left
        · (intro w hSw; (try dsimp only at hSw); go_simp)
          try with_reducible rfl
        try simp only [Act.put, List.setIfInBounds_toArray, List.set_cons_zero, List.set_cons_succ]
        refine wpAnyH_take (i := 7) (oi := ⟨_, _, _, _, _, _⟩) (v := ?_) rfl (by kernel_rfl) (by kernel_rfl) (by kernel_rfl) (fun _ _ _ h => h) (Or.inl ⟨by rfl, ?_⟩) (by assumption) ?_
        rotate_left
        · (intro w hSw; (try dsimp only at hSw); go_simp)
          try with_reducible rfl
        try simp only [Act.put, List.setIfInBounds_toArray, List.set_cons_zero, List.set_cons_succ]
        refine wpAnyH_take (i := 8) (oi := ⟨_, _, _, _, _, _⟩) (v := ?_) rfl (by kernel_rfl) (by kernel_rfl) (by kernel_rfl) (fun _ _ _ h => h) (Or.inl ⟨by rfl, ?_⟩) (by assumption) ?_
        rotate_left
        · (intro w hSw; (try dsimp only at hSw); go_simp)
          try with_reducible rfl
        try simp only [Act.put, List.setIfInBounds_toArray, List.set_cons_zero, List.set_cons_succ]
        refine wpAnyH_take (i := 9) (oi := ⟨_, _, _, _, _, _⟩) (v := ?_) rfl (by kernel_rfl) (by kernel_rfl) (by kernel_rfl) (fun _ _ _ h => h) (Or.inl ⟨by rfl, ?_⟩) (by assumption) ?_
        rotate_left
        · (intro w hSw; (try dsimp only at hSw); go_simp)
          try with_reducible rfl
        try simp only [Act.put, List.setIfInBounds_toArray, List.set_cons_zero, List.set_cons_succ]
        refine wpAnyH_take (i := 10) (oi := ⟨_, _, _, _, _, _⟩) (v := ?_) rfl (by kernel_rfl) (by kernel_rfl) (by kernel_rfl) (fun _ _ _ h => h) (Or.inl ⟨by rfl, ?_⟩) (by assumption) ?_
        rotate_left
        · (intro w hSw; (try dsimp only at hSw); go_simp)
          try with_reducible rfl
        try simp only [Act.put, List.setIfInBounds_toArray, List.set_cons_zero, List.set_cons_succ]
        refine wpAnyH_take (i := 11) (oi := ⟨_, _, _, _, _, _⟩) (v := ?_) rfl (by kernel_rfl) (by kernel_rfl) (by kernel_rfl) (fun _ _ _ h => h) (Or.inl ⟨by rfl, ?_⟩) (by assumption) ?_
        rotate_left
        · (intro w hSw; (try dsimp only at hSw); go_simp)
          try with_reducible rfl
        try simp only [Act.put, List.setIfInBounds_toArray, List.set_cons_zero, List.set_cons_succ]
        refine wpAnyH_take (i := 12) (oi := ⟨_, _, _, _, _, _⟩) (v := ?_) rfl (by kernel_rfl) (by kernel_rfl) (by kernel_rfl) (fun _ _ _ h => h) (Or.inl ⟨by rfl, ?_⟩) (by assumption) ?_
        rotate_left
        · (intro w hSw; (try dsimp only at hSw); go_simp)
          try with_reducible rfl
        try simp only [Act.put, List.setIfInBounds_toArray, List.set_cons_zero, List.set_cons_succ]
        refine wpAnyH_take (i := 13) (oi := ⟨_, _, _, _, _, _⟩) (v := ?_) rfl (by kernel_rfl) (by kernel_rfl) (by kernel_rfl) (fun _ _ _ h => h) (Or.inl ⟨by rfl, ?_⟩) (by assumption) ?_
        rotate_left
        · (intro w hSw; (try dsimp only at hSw); go_simp)
          try with_reducible rfl
        try simp only [Act.put, List.setIfInBounds_toArray, List.set_cons_zero, List.set_cons_succ]
        refine wpAnyH_take (i := 14) (oi := ⟨_, _, _, _, _, _⟩) (v := ?_) rfl (by kernel_rfl) (by kernel_rfl) (by kernel_rfl) (fun _ _ _ h => h) (Or.inl ⟨by rfl, ?_⟩) (by assumption) ?_
        rotate_left
        · (intro w hSw; (try dsimp only at hSw); go_simp)
          try with_reducible rfl
        try simp only [Act.put, List.setIfInBounds_toArray, List.set_cons_zero, List.set_cons_succ]
        refine wpAnyH_take (i := 15) (oi := ⟨_, _, _, _, _, _⟩) (v := ?_) rfl (by kernel_rfl) (by kernel_rfl) (by kernel_rfl) (fun _ _ _ h => h) (Or.inl ⟨by rfl, ?_⟩) (by assumption) ?_
        rotate_left
        · (intro w hSw; (try dsimp only at hSw); go_simp)
          try with_reducible rfl
        try simp only [Act.put, List.setIfInBounds_toArray, List.set_cons_zero, List.set_cons_succ]
        refine wpAnyH_ready (rs := [16]) (by kernel_rfl) (by simp) ?_
        refine AllReadyH.cons (o := ⟨_, _, _, _, _, _⟩) rfl (fun K hK => ?_) ?_
        rotate_left
        · exact AllReadyH.nil
        go_simp
        refine (lessR_c _ (Ls.mk b0 b1 b2 b3 b4) (Ls.mk node version fn epoch (tick + l))).mono ?_
        rintro e wN ⟨rfl, fN⟩
        have HFN := hid (show Fr No wr wN from Fr.fresh_no (by with_reducible first | exact (Fr.refl No wr).drew | exact Fr.refl No wr) fN)
        clear fN
        rw [HLT.out]
        try go_wp2_with fail
        refine hK.out _ _ ?_ (fun hHeld => ?_)
        · (try dsimp only)
          first | assumption | (refine KS.out _ ?_; with_reducible first | exact HFN.out | exact HFN.out.drew | exact (Fr.refl _ wr).drew | exact Fr.refl _ wr)
        clear hK K
        try simp only [Act.put, List.setIfInBounds_toArray, List.set_cons_zero, List.set_cons_succ]
        refine wpAnyH_take (i := 17) (oi := ⟨_, _, _, _, _, _⟩) (v := ?_) rfl (by kernel_rfl) (by kernel_rfl) (by kernel_rfl) (fun _ _ _ h => h) (Or.inl ⟨by rfl, ?_⟩) (by assumption) ?_
        rotate_left
        · (intro w hSw; (try dsimp only at hSw); go_simp)
          try with_reducible rfl
        try simp only [Act.put, List.setIfInBounds_toArray, List.set_cons_zero, List.set_cons_succ]
        refine wpAnyH_done (by kernel_rfl) ?_ _
        have HGN := hid (HG.out.keep HFN.out)
        clear KS
        go_wp2_with fail
        have KS := hid (show ∀ w', Fr No wN w' → w'.cell? ⟨g, 3, none⟩ = some (.slice (some ⟨gA, 0, none⟩) ys.length c) ∧ w'.cell? ⟨xb, 0, none⟩ = some (.int .i64 node) ∧ w'.cell? ⟨xb, 1, none⟩ = some (.int .i64 version) ∧ w'.cell? ⟨xb, 2, none⟩ = some (.int .i64 fn) ∧ w'.cell? ⟨xb, 3, none⟩ = some (.int .i64 epoch) ∧ w'.cell? ⟨xb, 4, none⟩ = some (.int .i64 (tick + l)) ∧ w'.cell? ⟨gA, t * 5, none⟩ = some (.int .i64 b0) ∧ w'.cell? ⟨gA, t * 5 + 1, none⟩ = some (.int .i64 b1) ∧ w'.cell? ⟨gA, t * 5 + 2, none⟩ = some (.int .i64 b2) ∧ w'.cell? ⟨gA, t * 5 + 3, none⟩ = some (.int .i64 b3) ∧ w'.cell? ⟨gA, t * 5 + 4, none⟩ = some (.int .i64 b4) from fun w' hf => by
          have q := HGN.out.keep hf
          obtain ⟨_, _, _, e3, _⟩ := q.ref.blk.four
          obtain ⟨gB, hgB, _, m0, m1, m2, m3, m4⟩ := rlease_at q.ref.own HX.out
          injection hgB with hgB
          injection hgB with hgB
          subst hgB
          exact ⟨e3, q.box.cell 0, q.box.cell 1, q.box.cell 2, q.box.cell 3, q.box.cell 4, m0, m1, m2, m3, m4⟩)
        rcases hlt2 : ltOf cmpL ⟨node, version, fn, epoch, tick + l⟩ ⟨b0, b1, b2, b3, b4⟩ with _ | _
        · have HLT2 := hid hlt2
          clear hlt2
          go_upto_region 9 with fail
          refine wp_region_held_drew (S := (fun w' => w'.cell? ⟨g, 3, none⟩ = some (.slice (some ⟨gA, 0, none⟩) ys.length c) ∧ w'.cell? ⟨xb, 0, none⟩ = some (.int .i64 node) ∧ w'.cell? ⟨xb, 1, none⟩ = some (.int .i64 version) ∧ w'.cell? ⟨xb, 2, none⟩ = some (.int .i64 fn) ∧ w'.cell? ⟨xb, 3, none⟩ = some (.int .i64 epoch) ∧ w'.cell? ⟨xb, 4, none⟩ = some (.int .i64 (tick + l)) ∧ w'.cell? ⟨gA, t * 5, none⟩ = some (.int .i64 b0) ∧ w'.cell? ⟨gA, t * 5 + 1, none⟩ = some (.int .i64 b1) ∧ w'.cell? ⟨gA, t * 5 + 2, none⟩ = some (.int .i64 b2) ∧ w'.cell? ⟨gA, t * 5 + 3, none⟩ = some (.int .i64 b3) ∧ w'.cell? ⟨gA, t * 5 + 4, none⟩ = some (.int .i64 b4))) (by kernel_rfl) ?_ (fun hHeld => ?_)
          · (try dsimp only)
            (refine KS.out _ ?_; with_reducible first | exact HFM.out | exact HFM.out.drew | exact (Fr.refl _ wN).drew | exact Fr.refl _ wN)
          refine wpAnyH_take (i := 0) (oi := ⟨_, _, _, _, _, _⟩) (v := ?_) rfl (by kernel_rfl) (by kernel_rfl) (by kernel_rfl) (fun _ _ _ h => h) (Or.inl ⟨by rfl, ?_⟩) (by assumption) ?_
          rotate_left
          · (intro w hSw; (try dsimp only at hSw); go_simp)
            try with_reducible rfl
          try simp only [Act.put, List.setIfInBounds_toArray, List.set_cons_zero, List.set_cons_succ]
          refine wpAnyH_take (i := 1) (oi := ⟨_, _, _, _, _, _⟩) (v := ?_) rfl (by kernel_rfl) (by kernel_rfl) (by kernel_rfl) (fun _ _ _ h => h) (Or.inl ⟨by rfl, ?_⟩) (by assumption) ?_
          rotate_left
          · (intro w hSw; (try dsimp only at hSw); go_simp)
            try with_reducible rfl
          try simp only [Act.put, List.setIfInBounds_toArray, List.set_cons_zero, List.set_cons_succ]
          refine wpAnyH_take (i := 2) (oi := ⟨_, _, _, _, _, _⟩) (v := ?_) rfl (by kernel_rfl) (by kernel_rfl) (by kernel_rfl) (fun _ _ _ h => h) (Or.inl ⟨by rfl, ?_⟩) (by assumption) ?_
          rotate_left
          · (intro w hSw; (try dsimp only at hSw); go_simp)
            try with_reducible rfl
          try simp only [Act.put, List.setIfInBounds_toArray, List.set_cons_zero, List.set_cons_succ]
          refine wpAnyH_take (i := 3) (oi := ⟨_, _, _, _, _, _⟩) (v := ?_) rfl (by kernel_rfl) (by kernel_rfl) (by kernel_rfl) (fun _ _ _ h => h) (Or.inl ⟨by rfl, ?_⟩) (by assumption) ?_
          rotate_left
          · (intro w hSw; (try dsimp only at hSw); go_simp)
            try with_reducible rfl
          try simp only [Act.put, List.setIfInBounds_toArray, List.set_cons_zero, List.set_cons_succ]
          refine wpAnyH_take (i := 4) (oi := ⟨_, _, _, _, _, _⟩) (v := ?_) rfl (by kernel_rfl) (by kernel_rfl) (by kernel_rfl) (fun _ _ _ h => h) (Or.inl ⟨by rfl, ?_⟩) (by assumption) ?_
          rotate_left
          · (intro w hSw; (try dsimp only at hSw); go_simp)
            try with_reducible rfl
          try simp only [Act.put, List.setIfInBounds_toArray, List.set_cons_zero, List.set_cons_succ]
          refine wpAnyH_take (i := 5) (oi := ⟨_, _, _, _, _, _⟩) (v := ?_) rfl (by kernel_rfl) (by kernel_rfl) (by kernel_rfl) (fun _ _ _ h => h) (Or.inl ⟨by rfl, ?_⟩) (by assumption) ?_
          rotate_left
          · (intro w hSw; (try dsimp only at hSw); go_simp)
            try with_reducible rfl
          try simp only [Act.put, List.setIfInBounds_toArray, List.set_cons_zero, List.set_cons_succ]
          refine wpAnyH_take (i := 6) (oi := ⟨_, _, _, _, _, _⟩) (v := ?_) rfl (by kernel_rfl) (by kernel_rfl) (by kernel_rfl) (fun _ _ _ h => h) (Or.inl ⟨by rfl, ?_⟩) (by assumption) ?_
          rotate_left
          · (intro w hSw; (try dsimp only at hSw); go_simp)
            try with_reducible rfl
          try simp only [Act.put, List.setIfInBounds_toArray, List.set_cons_zero, List.set_cons_succ]
          refine wpAnyH_take (i := 7) (oi := ⟨_, _, _, _, _, _⟩) (v := ?_) rfl (by kernel_rfl) (by kernel_rfl) (by kernel_rfl) (fun _ _ _ h => h) (Or.inl ⟨by rfl, ?_⟩) (by assumption) ?_
          rotate_left
          · (intro w hSw; (try dsimp only at hSw); go_simp)
            try with_reducible rfl
          try simp only [Act.put, List.setIfInBounds_toArray, List.set_cons_zero, List.set_cons_succ]
          refine wpAnyH_take (i := 8) (oi := ⟨_, _, _, _, _, _⟩) (v := ?_) rfl (by kernel_rfl) (by kernel_rfl) (by kernel_rfl) (fun _ _ _ h => h) (Or.inl ⟨by rfl, ?_⟩) (by assumption) ?_
          rotate_left
          · (intro w hSw; (try dsimp only at hSw); go_simp)
            try with_reducible rfl
          try simp only [Act.put, List.setIfInBounds_toArray, List.set_cons_zero, List.set_cons_succ]
          refine wpAnyH_take (i := 9) (oi := ⟨_, _, _, _, _, _⟩) (v := ?_) rfl (by kernel_rfl) (by kernel_rfl) (by kernel_rfl) (fun _ _ _ h => h) (Or.inl ⟨by rfl, ?_⟩) (by assumption) ?_
          rotate_left
          · (intro w hSw; (try dsimp only at hSw); go_simp)
            try with_reducible rfl
          try simp only [Act.put, List.setIfInBounds_toArray, List.set_cons_zero, List.set_cons_succ]
          refine wpAnyH_take (i := 10) (oi := ⟨_, _, _, _, _, _⟩) (v := ?_) rfl (by kernel_rfl) (by kernel_rfl) (by kernel_rfl) (fun _ _ _ h => h) (Or.inl ⟨by rfl, ?_⟩) (by assumption) ?_
          rotate_left
          · (intro w hSw; (try dsimp only at hSw); go_simp)
            try with_reducible rfl
          try simp only [Act.put, List.setIfInBounds_toArray, List.set_cons_zero, List.set_cons_succ]
          refine wpAnyH_take (i := 11) (oi := ⟨_, _, _, _, _, _⟩) (v := ?_) rfl (by kernel_rfl) (by kernel_rfl) (by kernel_rfl) (fun _ _ _ h => h) (Or.inl ⟨by rfl, ?_⟩) (by assumption) ?_
          rotate_left
          · (intro w hSw; (try dsimp only at hSw); go_simp)
            try with_reducible rfl
          try simp only [Act.put, List.setIfInBounds_toArray, List.set_cons_zero, List.set_cons_succ]
          refine wpAnyH_take (i := 12) (oi := ⟨_, _, _, _, _, _⟩) (v := ?_) rfl (by kernel_rfl) (by kernel_rfl) (by kernel_rfl) (fun _ _ _ h => h) (Or.inl ⟨by rfl, ?_⟩) (by assumption) ?_
          rotate_left
          · (intro w hSw; (try dsimp only at hSw); go_simp)
            try with_reducible rfl
          try simp only [Act.put, List.setIfInBounds_toArray, List.set_cons_zero, List.set_cons_succ]
          refine wpAnyH_take (i := 13) (oi := ⟨_, _, _, _, _, _⟩) (v := ?_) rfl (by kernel_rfl) (by kernel_rfl) (by kernel_rfl) (fun _ _ _ h => h) (Or.inl ⟨by rfl, ?_⟩) (by assumption) ?_
          rotate_left
          · (intro w hSw; (try dsimp only at hSw); go_simp)
            try with_reducible rfl
          try simp only [Act.put, List.setIfInBounds_toArray, List.set_cons_zero, List.set_cons_succ]
          refine wpAnyH_take (i := 14) (oi := ⟨_, _, _, _, _, _⟩) (v := ?_) rfl (by kernel_rfl) (by kernel_rfl) (by kernel_rfl) (fun _ _ _ h => h) (Or.inl ⟨by rfl, ?_⟩) (by assumption) ?_
          rotate_left
          · (intro w hSw; (try dsimp only at hSw); go_simp)
            try with_reducible rfl
          try simp only [Act.put, List.setIfInBounds_toArray, List.set_cons_zero, List.set_cons_succ]
          refine wpAnyH_take (i := 15) (oi := ⟨_, _, _, _, _, _⟩) (v := ?_) rfl (by kernel_rfl) (by kernel_rfl) (by kernel_rfl) (fun _ _ _ h => h) (Or.inl ⟨by rfl, ?_⟩) (by assumption) ?_
          rotate_left
          · (intro w hSw; (try dsimp only at hSw); go_simp)
            try with_reducible rfl
          try simp only [Act.put, List.setIfInBounds_toArray, List.set_cons_zero, List.set_cons_succ]
          refine wpAnyH_ready (rs := [16]) (by kernel_rfl) (by simp) ?_
          refine AllReadyH.cons (o := ⟨_, _, _, _, _, _⟩) rfl (fun K hK => ?_) ?_
          rotate_left
          · exact AllReadyH.nil
          go_simp
          refine (lessR_c _ (Ls.mk node version fn epoch (tick + l)) (Ls.mk b0 b1 b2 b3 b4)).mono ?_
          rintro e wM ⟨rfl, fM⟩
          have HFM := hid (show Fr No wN wM from Fr.fresh_no (by with_reducible first | exact (Fr.refl No wN).drew | exact Fr.refl No wN) fM)
          clear fM
          rw [HLT2.out]
          try go_wp2_with fail
          refine hK.out _ _ ?_ (fun hHeld => ?_)
          · (try dsimp only)
            first | assumption | (refine KS.out _ ?_; with_reducible first | exact HFM.out | exact HFM.out.drew | exact (Fr.refl _ wN).drew | exact Fr.refl _ wN)
          clear hK K
          try simp only [Act.put, List.setIfInBounds_toArray, List.set_cons_zero, List.set_cons_succ]
          refine wpAnyH_take (i := 17) (oi := ⟨_, _, _, _, _, _⟩) (v := ?_) rfl (by kernel_rfl) (by kernel_rfl) (by kernel_rfl) (fun _ _ _ h => h) (Or.inl ⟨by rfl, ?_⟩) (by assumption) ?_
          rotate_left
          · (intro w hSw; (try dsimp only at hSw); go_simp)
            try with_reducible rfl
          try simp only [Act.put, List.setIfInBounds_toArray, List.set_cons_zero, List.set_cons_succ]
          refine wpAnyH_take (i := 18) (oi := ⟨_, _, _, _, _, _⟩) (v := ?_) rfl (by kernel_rfl) (by kernel_rfl) (by kernel_rfl) (fun _ _ _ h => h) (Or.inl ⟨by rfl, ?_⟩) (by assumption) ?_
          rotate_left
          · (intro w hSw; (try dsimp only at hSw); go_simp)
            try with_reducible rfl
          try simp only [Act.put, List.setIfInBounds_toArray, List.set_cons_zero, List.set_cons_succ]
          refine wpAnyH_done (by kernel_rfl) ?_ _
          have HGM := hid (HGN.out.keep HFM.out)
          clear KS
          obtain ⟨c0, c1, c2, c3, cf⟩ := HGM.out.ref.blk.four
          obtain ⟨gC, hgC, _, k0, k1, k2, k3, k4⟩ := rlease_at HGM.out.ref.own HX.out
          injection hgC with hgC
          injection hgC with hgC
          subst hgC
          dsimp only at k0 k1 k2 k3 k4
          have z0 := HGM.out.res.cell 0
          have z1 := HGM.out.res.cell 1
          have z2 := HGM.out.res.cell 2
          have z3 := HGM.out.res.cell 3
          have z4 := HGM.out.res.cell 4
          have zf := HGM.out.res.frozen
          by_cases e5 : epoch < b3
          · go_wp2_with fail
            refine ⟨rfl, ?_⟩
            refine ⟨.tuple #[zeroL, .int .i64 151], ?_, ?_⟩
            · have hres : Try.f20.results = #[.cell 12 30, .tmp 13] := rfl
              simp [results, hres, asAddr]
              try go_simp
              try rfl
            · exact ⟨t, htl, HB.out, .inl ⟨_, HX.out, HLT.out, HLT2.out, .inl ⟨e5, rfl, Fr.box (rb := rb) HGM.out.fr (by with_reducible repeat (first | exact Fr.refl _ _ | refine Fr.setCell (S := fun k => k = rb) ?_ (fun _ => rfl) _ | refine Fr.drew ?_)) (by have := HRE.out; omega)⟩⟩⟩
          · go_upto_region 12 with fail
            have x0 := HGM.out.box.cell 0
            have x1 := HGM.out.box.cell 1
            have x2 := HGM.out.box.cell 2
            have x3 := HGM.out.box.cell 3
            have x4 := HGM.out.box.cell 4
            have xf := HGM.out.box.frozen
            have kx := fun (a b : Int) (w : World) => run_max2 (P := Try.prog) (w := w) (k := .i64) (ats := #[3, 3]) (ty := 3) a b
            go_region
            have HGT := hid ((HGM.out.till HGL.out HVL.out (by have := HXE.out; omega) (by have h1 := HXE.out; have h2 := HRE.out; omega) (max (tick + l) b4)).keep (Fr.refl No _).drew)
            generalize (wM.setCell ⟨xb, 4, none⟩ (.int .i64 (max (tick + l) b4))).drew = V at HGT ⊢
            clear x0 x1 x2 x3 x4 xf c0 c1 c2 c3 cf k0 k1 k2 k3 k4 z0 z1 z2 z3 z4 zf kx
            obtain ⟨c0, c1, c2, c3, cf⟩ := HGT.out.ref.blk.four
            obtain ⟨gC, hgC, _, k0, k1, k2, k3, k4⟩ := rlease_at HGT.out.ref.own HX.out
            injection hgC with hgC
            injection hgC with hgC
            subst hgC
            dsimp only at k0 k1 k2 k3 k4
            have kf := HGT.out.ref.own.frozen
            have x0 : V.cell? ⟨xb, 0, none⟩ = some (.int .i64 node) := HGT.out.box.cell 0
            have x1 : V.cell? ⟨xb, 1, none⟩ = some (.int .i64 version) := HGT.out.box.cell 1
            have x2 : V.cell? ⟨xb, 2, none⟩ = some (.int .i64 fn) := HGT.out.box.cell 2
            have x3 : V.cell? ⟨xb, 3, none⟩ = some (.int .i64 epoch) := HGT.out.box.cell 3
            have x4 : V.cell? ⟨xb, 4, none⟩ = some (.int .i64 (max (tick + l) b4)) := HGT.out.box.cell 4
            have d5 : ¬ (ys.length : Int) ≤ t := by omega
            go_upto_region 13 with fail
            go_region
            have hp := HGT.out.put (by have h1 := HVL.out gA (Of_some.2 rfl); exact h1) (by have := HRE.out; omega) (by have h1 := HXE.out; have h2 := HRE.out; omega) t ⟨node, version, fn, epoch, max (tick + l) b4⟩ _ rfl
            generalize ((((V.setCell ⟨gA, t * 5, none⟩ (.int .i64 node)).setCell ⟨gA, t * 5 + 1, none⟩ (.int .i64 version)).setCell ⟨gA, t * 5 + 2, none⟩ (.int .i64 fn)).setCell ⟨gA, t * 5 + 3, none⟩ (.int .i64 epoch)).setCell ⟨gA, t * 5 + 4, none⟩ (.int .i64 (max (tick + l) b4)) = V1 at hp ⊢
            clear c0 c1 c2 c3 cf k0 k1 k2 k3 k4 x0 x1 x2 x3 x4 kf HGT
            obtain ⟨p1, p2, p3, p4⟩ := hp
            have HP1 := hid p1
            have HP4 := hid p4
            have z0 := p2.cell 0
            have z1 := p2.cell 1
            have z2 := p2.cell 2
            have z3 := p2.cell 3
            have z4 := p2.cell 4
            have zf := p2.frozen
            have x0 : V1.cell? ⟨xb, 0, none⟩ = some (.int .i64 node) := p3.cell 0
            have x1 : V1.cell? ⟨xb, 1, none⟩ = some (.int .i64 version) := p3.cell 1
            have x2 : V1.cell? ⟨xb, 2, none⟩ = some (.int .i64 fn) := p3.cell 2
            have x3 : V1.cell? ⟨xb, 3, none⟩ = some (.int .i64 epoch) := p3.cell 3
            have x4 : V1.cell? ⟨xb, 4, none⟩ = some (.int .i64 (max (tick + l) b4)) := p3.cell 4
            clear p1 p2 p3 p4
            go_wp2_with fail
            refine ⟨rfl, ?_⟩
            refine ⟨.tuple #[.agg #[.int .i64 node, .int .i64 version, .int .i64 fn, .int .i64 epoch, .int .i64 (max (tick + l) b4)], .int .i64 0], ?_, ?_⟩
            · have hres : Try.f20.results = #[.cell 12 30, .tmp 13] := rfl
              simp [results, hres, asAddr]
              try go_simp
              try rfl
            · exact ⟨t, htl, HB.out, .inl ⟨_, HX.out, HLT.out, HLT2.out, .inr ⟨Int.not_lt.2 e5, rfl, _, HP1.out.far (by with_reducible repeat (first | exact Fr.refl _ _ | refine Fr.setCell (S := fun k => k = rb) ?_ (fun _ => rfl) _ | refine Fr.drew ?_)) (by have h1 := HGL.out; have h2 := HRE.out; omega) (fun k hk => by have h1 := HVL.out k hk; have h2 := HRE.out; omega), (Fr.box (rb := rb) HP4.out (by with_reducible repeat (first | exact Fr.refl _ _ | refine Fr.setCell (S := fun k => k = rb) ?_ (fun _ => rfl) _ | refine Fr.drew ?_)) (by have := HRE.out; omega)).mono (fun k _ hk => .inr (Of_some.2 hk)), fun k hk => .inl hk⟩⟩⟩
        · have HLT2 := hid hlt2
          clear hlt2
          go_upto_region 9 with fail
          refine wp_region_held_drew (S := (fun w' => w'.cell? ⟨g, 3, none⟩ = some (.slice (some ⟨gA, 0, none⟩) ys.length c) ∧ w'.cell? ⟨xb, 0, none⟩ = some (.int .i64 node) ∧ w'.cell? ⟨xb, 1, none⟩ = some (.int .i64 version) ∧ w'.cell? ⟨xb, 2, none⟩ = some (.int .i64 fn) ∧ w'.cell? ⟨xb, 3, none⟩ = some (.int .i64 epoch) ∧ w'.cell? ⟨xb, 4, none⟩ = some (.int .i64 (tick + l)) ∧ w'.cell? ⟨gA, t * 5, none⟩ = some (.int .i64 b0) ∧ w'.cell? ⟨gA, t * 5 + 1, none⟩ = some (.int .i64 b1) ∧ w'.cell? ⟨gA, t * 5 + 2, none⟩ = some (.int .i64 b2) ∧ w'.cell? ⟨gA, t * 5 + 3, none⟩ = some (.int .i64 b3) ∧ w'.cell? ⟨gA, t * 5 + 4, none⟩ = some (.int .i64 b4))) (by kernel_rfl) ?_ (fun hHeld => ?_)
          · (try dsimp only)
            (refine KS.out _ ?_; with_reducible first | exact HFM.out | exact HFM.out.drew | exact (Fr.refl _ wN).drew | exact Fr.refl _ wN)
          refine wpAnyH_take (i := 0) (oi := ⟨_, _, _, _, _, _⟩) (v := ?_) rfl (by kernel_rfl) (by kernel_rfl) (by kernel_rfl) (fun _ _ _ h => h) (Or.inl ⟨by rfl, ?_⟩) (by assumption) ?_
          rotate_left
          · (intro w hSw; (try dsimp only at hSw); go_simp)
            try with_reducible rfl
          try simp only [Act.put, List.setIfInBounds_toArray, List.set_cons_zero, List.set_cons_succ]
          refine wpAnyH_take (i := 1) (oi := ⟨_, _, _, _, _, _⟩) (v := ?_) rfl (by kernel_rfl) (by kernel_rfl) (by kernel_rfl) (fun _ _ _ h => h) (Or.inl ⟨by rfl, ?_⟩) (by assumption) ?_
          rotate_left
          · (intro w hSw; (try dsimp only at hSw); go_simp)
            try with_reducible rfl
          try simp only [Act.put, List.setIfInBounds_toArray, List.set_cons_zero, List.set_cons_succ]
          refine wpAnyH_take (i := 2) (oi := ⟨_, _, _, _, _, _⟩) (v := ?_) rfl (by kernel_rfl) (by kernel_rfl) (by kernel_rfl) (fun _ _ _ h => h) (Or.inl ⟨by rfl, ?_⟩) (by assumption) ?_
          rotate_left
          · (intro w hSw; (try dsimp only at hSw); go_simp)
            try with_reducible rfl
          try simp only [Act.put, List.setIfInBounds_toArray, List.set_cons_zero, List.set_cons_succ]
          refine wpAnyH_take (i := 3) (oi := ⟨_, _, _, _, _, _⟩) (v := ?_) rfl (by kernel_rfl) (by kernel_rfl) (by kernel_rfl) (fun _ _ _ h => h) (Or.inl ⟨by rfl, ?_⟩) (by assumption) ?_
          rotate_left
          · (intro w hSw; (try dsimp only at hSw); go_simp)
            try with_reducible rfl
          try simp only [Act.put, List.setIfInBounds_toArray, List.set_cons_zero, List.set_cons_succ]
          refine wpAnyH_take (i := 4) (oi := ⟨_, _, _, _, _, _⟩) (v := ?_) rfl (by kernel_rfl) (by kernel_rfl) (by kernel_rfl) (fun _ _ _ h => h) (Or.inl ⟨by rfl, ?_⟩) (by assumption) ?_
          rotate_left
          · (intro w hSw; (try dsimp only at hSw); go_simp)
            try with_reducible rfl
          try simp only [Act.put, List.setIfInBounds_toArray, List.set_cons_zero, List.set_cons_succ]
          refine wpAnyH_take (i := 5) (oi := ⟨_, _, _, _, _, _⟩) (v := ?_) rfl (by kernel_rfl) (by kernel_rfl) (by kernel_rfl) (fun _ _ _ h => h) (Or.inl ⟨by rfl, ?_⟩) (by assumption) ?_
          rotate_left
          · (intro w hSw; (try dsimp only at hSw); go_simp)
            try with_reducible rfl
          try simp only [Act.put, List.setIfInBounds_toArray, List.set_cons_zero, List.set_cons_succ]
          refine wpAnyH_take (i := 6) (oi := ⟨_, _, _, _, _, _⟩) (v := ?_) rfl (by kernel_rfl) (by kernel_rfl) (by kernel_rfl) (fun _ _ _ h => h) (Or.inl ⟨by rfl, ?_⟩) (by assumption) ?_
          rotate_left
          · (intro w hSw; (try dsimp only at hSw); go_simp)
            try with_reducible rfl
          try simp only [Act.put, List.setIfInBounds_toArray, List.set_cons_zero, List.set_cons_succ]
          refine wpAnyH_take (i := 7) (oi := ⟨_, _, _, _, _, _⟩) (v := ?_) rfl (by kernel_rfl) (by kernel_rfl) (by kernel_rfl) (fun _ _ _ h => h) (Or.inl ⟨by rfl, ?_⟩) (by assumption) ?_
          rotate_left
          · (intro w hSw; (try dsimp only at hSw); go_simp)
            try with_reducible rfl
          try simp only [Act.put, List.setIfInBounds_toArray, List.set_cons_zero, List.set_cons_succ]
          refine wpAnyH_take (i := 8) (oi := ⟨_, _, _, _, _, _⟩) (v := ?_) rfl (by kernel_rfl) (by kernel_rfl) (by kernel_rfl) (fun _ _ _ h => h) (Or.inl ⟨by rfl, ?_⟩) (by assumption) ?_
          rotate_left
          · (intro w hSw; (try dsimp only at hSw); go_simp)
            try with_reducible rfl
          try simp only [Act.put, List.setIfInBounds_toArray, List.set_cons_zero, List.set_cons_succ]
          refine wpAnyH_take (i := 9) (oi := ⟨_, _, _, _, _, _⟩) (v := ?_) rfl (by kernel_rfl) (by kernel_rfl) (by kernel_rfl) (fun _ _ _ h => h) (Or.inl ⟨by rfl, ?_⟩) (by assumption) ?_
          rotate_left
          · (intro w hSw; (try dsimp only at hSw); go_simp)
            try with_reducible rfl
          try simp only [Act.put, List.setIfInBounds_toArray, List.set_cons_zero, List.set_cons_succ]
          refine wpAnyH_take (i := 10) (oi := ⟨_, _, _, _, _, _⟩) (v := ?_) rfl (by kernel_rfl) (by kernel_rfl) (by kernel_rfl) (fun _ _ _ h => h) (Or.inl ⟨by rfl, ?_⟩) (by assumption) ?_
          rotate_left
          · (intro w hSw; (try dsimp only at hSw); go_simp)
            try with_reducible rfl
          try simp only [Act.put, List.setIfInBounds_toArray, List.set_cons_zero, List.set_cons_succ]
          refine wpAnyH_take (i := 11) (oi := ⟨_, _, _, _, _, _⟩) (v := ?_) rfl (by kernel_rfl) (by kernel_rfl) (by kernel_rfl) (fun _ _ _ h => h) (Or.inl ⟨by rfl, ?_⟩) (by assumption) ?_
          rotate_left
          · (intro w hSw; (try dsimp only at hSw); go_simp)
            try with_reducible rfl
          try simp only [Act.put, List.setIfInBounds_toArray, List.set_cons_zero, List.set_cons_succ]
          refine wpAnyH_take (i := 12) (oi := ⟨_, _, _, _, _, _⟩) (v := ?_) rfl (by kernel_rfl) (by kernel_rfl) (by kernel_rfl) (fun _ _ _ h => h) (Or.inl ⟨by rfl, ?_⟩) (by assumption) ?_
          rotate_left
          · (intro w hSw; (try dsimp only at hSw); go_simp)
            try with_reducible rfl
          try simp only [Act.put, List.setIfInBounds_toArray, List.set_cons_zero, List.set_cons_succ]
          refine wpAnyH_take (i := 13) (oi := ⟨_, _, _, _, _, _⟩) (v := ?_) rfl (by kernel_rfl) (by kernel_rfl) (by kernel_rfl) (fun _ _ _ h => h) (Or.inl ⟨by rfl, ?_⟩) (by assumption) ?_
          rotate_left
          · (intro w hSw; (try dsimp only at hSw); go_simp)
            try with_reducible rfl
          try simp only [Act.put, List.setIfInBounds_toArray, List.set_cons_zero, List.set_cons_succ]
          refine wpAnyH_take (i := 14) (oi := ⟨_, _, _, _, _, _⟩) (v := ?_) rfl (by kernel_rfl) (by kernel_rfl) (by kernel_rfl) (fun _ _ _ h => h) (Or.inl ⟨by rfl, ?_⟩) (by assumption) ?_
          rotate_left
          · (intro w hSw; (try dsimp only at hSw); go_simp)
            try with_reducible rfl
          try simp only [Act.put, List.setIfInBounds_toArray, List.set_cons_zero, List.set_cons_succ]
          refine wpAnyH_take (i := 15) (oi := ⟨_, _, _, _, _, _⟩) (v := ?_) rfl (by kernel_rfl) (by kernel_rfl) (by kernel_rfl) (fun _ _ _ h => h) (Or.inl ⟨by rfl, ?_⟩) (by assumption) ?_
          rotate_left
          · (intro w hSw; (try dsimp only at hSw); go_simp)
            try with_reducible rfl
          try simp only [Act.put, List.setIfInBounds_toArray, List.set_cons_zero, List.set_cons_succ]
          refine wpAnyH_ready (rs := [16]) (by kernel_rfl) (by simp) ?_
          refine AllReadyH.cons (o := ⟨_, _, _, _, _, _⟩) rfl (fun K hK => ?_) ?_
          rotate_left
          · exact AllReadyH.nil
          go_simp
          refine (lessR_c _ (Ls.mk node version fn epoch (tick + l)) (Ls.mk b0 b1 b2 b3 b4)).mono ?_
          rintro e wM ⟨rfl, fM⟩
          have HFM := hid (show Fr No wN wM from Fr.fresh_no (by with_reducible first | exact (Fr.refl No wN).drew | exact Fr.refl No wN) fM)
          clear fM
          rw [HLT2.out]
          try go_wp2_with fail
          refine hK.out _ _ ?_ (fun hHeld => ?_)
          · (try dsimp only)
            first | assumption | (refine KS.out _ ?_; with_reducible first | exact HFM.out | exact HFM.out.drew | exact (Fr.refl _ wN).drew | exact Fr.refl _ wN)
          clear hK K
          try simp only [Act.put, List.setIfInBounds_toArray, List.set_cons_zero, List.set_cons_succ]
          refine wpAnyH_take (i := 17) (oi := ⟨_, _, _, _, _, _⟩) (v := ?_) rfl (by kernel_rfl) (by kernel_rfl) (by kernel_rfl) (fun _ _ _ h => h) (Or.inl ⟨by rfl, ?_⟩) (by assumption) ?_
          rotate_left
          · (intro w hSw; (try dsimp only at hSw); go_simp)
            try with_reducible rfl
          try simp only [Act.put, List.setIfInBounds_toArray, List.set_cons_zero, List.set_cons_succ]
          refine wpAnyH_take (i := 18) (oi := ⟨_, _, _, _, _, _⟩) (v := ?_) rfl (by kernel_rfl) (by kernel_rfl) (by kernel_rfl) (fun _ _ _ h => h) (Or.inl ⟨by rfl, ?_⟩) (by assumption) ?_
          rotate_left
          · (intro w hSw; (try dsimp only at hSw); go_simp)
            try with_reducible rfl
          try simp only [Act.put, List.setIfInBounds_toArray, List.set_cons_zero, List.set_cons_succ]
          refine wpAnyH_done (by kernel_rfl) ?_ _
          have HGM := hid (HGN.out.keep HFM.out)
          clear KS
          have KS := hid (show ∀ w', Fr No wM w' → w'.cell? ⟨g, 3, none⟩ = some (.slice (some ⟨gA, 0, none⟩) ys.length c) ∧ w'.cell? ⟨xb, 0, none⟩ = some (.int .i64 node) ∧ w'.cell? ⟨xb, 1, none⟩ = some (.int .i64 version) ∧ w'.cell? ⟨xb, 2, none⟩ = some (.int .i64 fn) ∧ w'.cell? ⟨xb, 3, none⟩ = some (.int .i64 epoch) ∧ w'.cell? ⟨xb, 4, none⟩ = some (.int .i64 (tick + l)) from fun w' hf => by
            have q := HGM.out.keep hf
            obtain ⟨_, _, _, e3, _⟩ := q.ref.blk.four
            exact ⟨e3, q.box.cell 0, q.box.cell 1, q.box.cell 2, q.box.cell 3, q.box.cell 4⟩)
          have HRT := hid (show ∀ w', Fr No wM w' → Rd 5 w' (.slice (some ⟨gA, 0, none⟩) t c) t (lcells (ys.take t)) from fun w' hf => rd_take (HGM.out.keep hf).ref.own htl (by omega))
          have HRD := hid (show ∀ w', Fr No wM w' → Rd 5 w' (.slice (if c = t then some ⟨gA, 0, none⟩ else some ⟨gA, t * 5, none⟩) (ys.length - t) (c - t)) (ys.length - t) (lcells (ys.drop t)) from fun w' hf => rd_drop (HGM.out.keep hf).ref.own htl hc)
          have d5 : ¬ (c : Int) < t := by omega
          have d6 : (t : Int) ≤ c := by omega
          have d7 : (t : Int) ≤ ys.length := by omega
          have HTL := hid htl
          have HYL := hid hl
          go_upto_region 15 with fail
          refine wp_region_F (S := (fun w' => w'.cell? ⟨g, 3, none⟩ = some (.slice (some ⟨gA, 0, none⟩) ys.length c) ∧ w'.cell? ⟨xb, 0, none⟩ = some (.int .i64 node) ∧ w'.cell? ⟨xb, 1, none⟩ = some (.int .i64 version) ∧ w'.cell? ⟨xb, 2, none⟩ = some (.int .i64 fn) ∧ w'.cell? ⟨xb, 3, none⟩ = some (.int .i64 epoch) ∧ w'.cell? ⟨xb, 4, none⟩ = some (.int .i64 (tick + l)))) (by kernel_rfl) ?_ (fun hHeld => ?_)
          · (try dsimp only)
            (refine KS.out _ ?_; with_reducible first | exact (Fr.refl _ wM).drew | exact Fr.refl _ wM)
          refine wpAnyF_take (i := 0) (oi := ⟨_, _, _, _, _, _⟩) (v := ?_) rfl (by kernel_rfl) (by kernel_rfl) (by kernel_rfl) (by kernel_rfl) (fun _ _ _ h => h) (Or.inl ⟨by rfl, ?_⟩) (by assumption) ?_
          rotate_left
          · (intro w hSw; (try dsimp only at hSw); go_simp)
            try with_reducible rfl
          try simp only [Act.put, List.setIfInBounds_toArray, List.set_cons_zero, List.set_cons_succ]
          refine wpAnyF_take (i := 2) (oi := ⟨_, _, _, _, _, _⟩) (v := ?_) rfl (by kernel_rfl) (by kernel_rfl) (by kernel_rfl) (by kernel_rfl) (fun _ _ _ h => h) (Or.inl ⟨by rfl, ?_⟩) (by assumption) ?_
          rotate_left
          · (intro w hSw; (try dsimp only at hSw); go_simp)
            try with_reducible rfl
          try simp only [Act.put, List.setIfInBounds_toArray, List.set_cons_zero, List.set_cons_succ]
          refine wpAnyF_take (i := 3) (oi := ⟨_, _, _, _, _, _⟩) (v := ?_) rfl (by kernel_rfl) (by kernel_rfl) (by kernel_rfl) (by kernel_rfl) (fun _ _ _ h => h) (Or.inl ⟨by rfl, ?_⟩) (by assumption) ?_
          rotate_left
          · (intro w hSw; (try dsimp only at hSw); go_simp)
            try with_reducible rfl
          try simp only [Act.put, List.setIfInBounds_toArray, List.set_cons_zero, List.set_cons_succ]
          refine wpAnyF_take (i := 4) (oi := ⟨_, _, _, _, _, _⟩) (v := ?_) rfl (by kernel_rfl) (by kernel_rfl) (by kernel_rfl) (by kernel_rfl) (fun _ _ _ h => h) (Or.inl ⟨by rfl, ?_⟩) (by assumption) ?_
          rotate_left
          · (intro w hSw; (try dsimp only at hSw); go_simp)
            try with_reducible rfl
          try simp only [Act.put, List.setIfInBounds_toArray, List.set_cons_zero, List.set_cons_succ]
          refine wpAnyF_take (i := 5) (oi := ⟨_, _, _, _, _, _⟩) (v := ?_) rfl (by kernel_rfl) (by kernel_rfl) (by kernel_rfl) (by kernel_rfl) (fun _ _ _ h => h) (Or.inl ⟨by rfl, ?_⟩) (by assumption) ?_
          rotate_left
          · (intro w hSw; (try dsimp only at hSw); go_simp)
            try with_reducible rfl
          try simp only [Act.put, List.setIfInBounds_toArray, List.set_cons_zero, List.set_cons_succ]
          refine wpAnyF_take (i := 6) (oi := ⟨_, _, _, _, _, _⟩) (v := ?_) rfl (by kernel_rfl) (by kernel_rfl) (by kernel_rfl) (by kernel_rfl) (fun _ _ _ h => h) (Or.inl ⟨by rfl, ?_⟩) (by assumption) ?_
          rotate_left
          · (intro w hSw; (try dsimp only at hSw); go_simp)
            try with_reducible rfl
          try simp only [Act.put, List.setIfInBounds_toArray, List.set_cons_zero, List.set_cons_succ]
          refine wpAnyF_take (i := 7) (oi := ⟨_, _, _, _, _, _⟩) (v := ?_) rfl (by kernel_rfl) (by kernel_rfl) (by kernel_rfl) (by kernel_rfl) (fun _ _ _ h => h) (Or.inl ⟨by rfl, ?_⟩) (by assumption) ?_
          rotate_left
          · (intro w hSw; (try dsimp only at hSw); go_simp)
            try with_reducible rfl
          try simp only [Act.put, List.setIfInBounds_toArray, List.set_cons_zero, List.set_cons_succ]
          refine wpAnyF_take (i := 9) (oi := ⟨_, _, _, _, _, _⟩) (v := ?_) rfl (by kernel_rfl) (by kernel_rfl) (by kernel_rfl) (by kernel_rfl) (fun _ _ _ h => h) (Or.inl ⟨by rfl, ?_⟩) (by assumption) ?_
          rotate_left
          · (intro w hSw; (try dsimp only at hSw); go_simp)
            try with_reducible rfl
          try simp only [Act.put, List.setIfInBounds_toArray, List.set_cons_zero, List.set_cons_succ]
          refine wpAnyF_take (i := 12) (oi := ⟨_, _, _, _, _, _⟩) (v := ?_) rfl (by kernel_rfl) (by kernel_rfl) (by kernel_rfl) (by kernel_rfl) (fun _ _ _ h => h) (Or.inl ⟨by rfl, ?_⟩) (by assumption) ?_
          rotate_left
          · (intro w hSw; (try dsimp only at hSw); go_simp)
            try with_reducible rfl
          try simp only [Act.put, List.setIfInBounds_toArray, List.set_cons_zero, List.set_cons_succ]
          refine wpAnyF_take (i := 13) (oi := ⟨_, _, _, _, _, _⟩) (v := ?_) rfl (by kernel_rfl) (by kernel_rfl) (by kernel_rfl) (by kernel_rfl) (fun _ _ _ h => h) (Or.inl ⟨by rfl, ?_⟩) (by assumption) ?_
          rotate_left
          · (intro w hSw; (try dsimp only at hSw); go_simp)
            try with_reducible rfl
          try simp only [Act.put, List.setIfInBounds_toArray, List.set_cons_zero, List.set_cons_succ]
          refine wpAnyF_take (i := 14) (oi := ⟨_, _, _, _, _, _⟩) (v := ?_) rfl (by kernel_rfl) (by kernel_rfl) (by kernel_rfl) (by kernel_rfl) (fun _ _ _ h => h) (Or.inl ⟨by rfl, ?_⟩) (by assumption) ?_
          rotate_left
          · (intro w hSw; (try dsimp only at hSw); go_simp)
            try with_reducible rfl
          try simp only [Act.put, List.setIfInBounds_toArray, List.set_cons_zero, List.set_cons_succ]
          refine wpAnyF_take (i := 15) (oi := ⟨_, _, _, _, _, _⟩) (v := ?_) rfl (by kernel_rfl) (by kernel_rfl) (by kernel_rfl) (by kernel_rfl) (fun _ _ _ h => h) (Or.inl ⟨by rfl, ?_⟩) (by assumption) ?_
          rotate_left
          · (intro w hSw; (try dsimp only at hSw); go_simp)
            try with_reducible rfl
          try simp only [Act.put, List.setIfInBounds_toArray, List.set_cons_zero, List.set_cons_succ]
          refine wpAnyF_take (i := 16) (oi := ⟨_, _, _, _, _, _⟩) (v := ?_) rfl (by kernel_rfl) (by kernel_rfl) (by kernel_rfl) (by kernel_rfl) (fun _ _ _ h => h) (Or.inl ⟨by rfl, ?_⟩) (by assumption) ?_
          rotate_left
          · (intro w hSw; (try dsimp only at hSw); go_simp)
            try with_reducible rfl
          try simp only [Act.put, List.setIfInBounds_toArray, List.set_cons_zero, List.set_cons_succ]
          refine wpAnyF_take (i := 17) (oi := ⟨_, _, _, _, _, _⟩) (v := ?_) rfl (by kernel_rfl) (by kernel_rfl) (by kernel_rfl) (by kernel_rfl) (fun _ _ _ h => h) (Or.inl ⟨by rfl, ?_⟩) (by assumption) ?_
          rotate_left
          · (intro w hSw; (try dsimp only at hSw); go_simp)
            try with_reducible rfl
          try simp only [Act.put, List.setIfInBounds_toArray, List.set_cons_zero, List.set_cons_succ]
          generalize (if c = t then (some ⟨gA, 0, none⟩ : Option Addr) else some ⟨gA, t * 5, none⟩) = AD at HRD ⊢
          refine wpAnyF_ready (rs := [1, 10]) (by kernel_rfl) (by simp) ?_
          refine AllReadyF.cons (o := ⟨_, _, _, _, _, _⟩) rfl (fun K hK => ?_) ?_
          rotate_left
          · refine AllReadyF.cons (o := ⟨_, _, _, _, _, _⟩) rfl (fun K hK => ?_) AllReadyF.nil
            go_simp
            have HU1 := hid (show Fr No wM (wM.alloc (.cells #[.int .i64 node, .int .i64 version, .int .i64 fn, .int .i64 epoch, .int .i64 (tick + l)] 30)).drew from ((Fr.refl No wM).alloc _).drew)
            have HX2 := hid (show Rd 5 (wM.alloc (.cells #[.int .i64 node, .int .i64 version, .int .i64 fn, .int .i64 epoch, .int .i64 (tick + l)] 30)).drew (.slice (some ⟨wM.heap.size, 0, none⟩) 1 1) 1 (Ls.mk node version fn epoch (tick + l)).cells.toList from Rd.keep (Rd.lease wM (Ls.mk node version fn epoch (tick + l))) ((Fr.refl No _).drew) (fun x _ => not_no x))
            have HXB := hid (show wM.heap.size < (wM.alloc (.cells #[.int .i64 node, .int .i64 version, .int .i64 fn, .int .i64 epoch, .int .i64 (tick + l)] 30)).drew.heap.size by simp)
            generalize wM.heap.size = x0 at HX2 HXB  ⊢
            generalize (wM.alloc (.cells #[.int .i64 node, .int .i64 version, .int .i64 fn, .int .i64 epoch, .int .i64 (tick + l)] 30)).drew = U1 at HU1 HX2 HXB  ⊢
            refine hK.out _ _ ?_ (fun hHeld => ?_)
            · (try dsimp only)
              first | assumption | exact KS.out _ HU1.out
            clear hK K
            try simp only [Act.put, List.setIfInBounds_toArray, List.set_cons_zero, List.set_cons_succ]
            refine wpAnyF_ready (rs := [1]) (by kernel_rfl) (by simp) ?_
            refine AllReadyF.cons (o := ⟨_, _, _, _, _, _⟩) rfl (fun K hK => ?_) AllReadyF.nil
            go_simp
            have HU2 := hid (show Fr No wM (U1.alloc (.cells #[] 30)) from (HU1.out.alloc _))
            have HE := hid (show Own 30 5 (U1.alloc (.cells #[] 30)) (.slice (some ⟨U1.heap.size, 0, none⟩) 0 0) 0 [] from Own.keep (Own.new U1 30 #[] 0 0 [] (by unfold maxLen; omega) (Nat.le_refl _) (by simp) (by simp)) (Fr.refl No _) (fun x _ => not_no x))
            have HX2 := hid (Rd.keep HX2.out ((Fr.refl No U1).alloc (.cells #[] 30)) (fun x _ => not_no x))
            have HNE := hid (show x0 ≠ U1.heap.size by have := HXB.out; omega)
            have HXB := hid (show x0 < (U1.alloc (.cells #[] 30)).heap.size by have := HXB.out; simp; omega)
            generalize he0 : U1.heap.size = e0 at HE HNE ⊢
            have HEB := hid (show wM.heap.size ≤ e0 from Nat.le_trans HU1.out.size (Nat.le_of_eq he0))
            clear he0
            generalize (U1.alloc (.cells #[] 30)) = U2 at HU2 HE HX2 HXB ⊢
            refine hK.out _ _ ?_ (fun hHeld => ?_)
            · (try dsimp only)
              first | assumption | exact KS.out _ HU2.out
            clear hK K
            try simp only [Act.put, List.setIfInBounds_toArray, List.set_cons_zero, List.set_cons_succ]
            refine wpAnyF_ready (rs := [8]) (by kernel_rfl) (by simp) ?_
            refine AllReadyF.cons (o := ⟨_, _, _, _, _, _⟩) rfl (fun K hK => ?_) AllReadyF.nil
            refine step_app _ rfl (.tmp 124) (.tmp 130) 38 rfl 30 zeroL 5 40 Try.underlying38 infoL rfl (.slice (some ⟨e0, 0, none⟩) 0 0) 0 [] (by simp [Act.eval, Act.put]) HE.out (.slice (some ⟨gA, 0, none⟩) t c) t (lcells (ys.take t)) (by simp [Act.eval, Act.put]) (HRT.out _ HU2.out) (by first | exact lcells_one _ | exact lc_one _ | simp) (by have h1 := HYL.out; have h2 := HTL.out; unfold maxLen; omega) (by have h1 := HYL.out; have h2 := HTL.out; omega) ?_
            intro v8 U3 O8 F8 G8
            have HO8 := hid (show Own 30 5 U3 v8 (0 + t) ([] ++ (lcells (ys.take t))) from O8)
            have HV8 := hid (show ∀ k, Of v8 k → wM.heap.size ≤ k from fun k hk => (G8 k hk).elim (fun h => by have h2 := HEB.out; have h3 : k = e0 := (by first | exact Of_some.1 h | exact (Of_some.1 h).symm); omega) (fun e => by rw [e]; exact HU2.out.size))
            have HU3 := hid (show Fr No wM U3 from HU2.out.fresh F8 (fun k hk => by have h2 := HEB.out; have h3 : k = e0 := (by first | exact Of_some.1 hk | exact (Of_some.1 hk).symm); omega))
            have HN8 := hid (show ∀ k, Of v8 k → x0 ≠ k from fun k hk => (G8 k hk).elim (fun h => by have h2 := HNE.out; have h3 : k = e0 := (by first | exact Of_some.1 h | exact (Of_some.1 h).symm); omega) (fun e => by have := HXB.out; omega))
            have HX2 := hid (Rd.keep HX2.out F8 (fun k hk h => by have h1 : k = e0 := (by first | exact Of_some.1 h | exact (Of_some.1 h).symm); have h4 : k = x0 := (by first | exact Of_some.1 hk | exact (Of_some.1 hk).symm); have := HNE.out; omega))
            clear O8 F8 G8 HE
            refine hK.out _ _ ?_ (fun hHeld => ?_)
            · (try dsimp only)
              first | assumption | exact KS.out _ HU3.out
            clear hK K
            try simp only [Act.put, List.setIfInBounds_toArray, List.set_cons_zero, List.set_cons_succ]
            refine wpAnyF_ready (rs := [11]) (by kernel_rfl) (by simp) ?_
            refine AllReadyF.cons (o := ⟨_, _, _, _, _, _⟩) rfl (fun K hK => ?_) AllReadyF.nil
            refine step_app _ rfl (.tmp 131) (.tmp 133) 38 rfl 30 zeroL 5 40 Try.underlying38 infoL rfl v8 (0 + t) ([] ++ (lcells (ys.take t))) (by simp [Act.eval, Act.put]) HO8.out (.slice (some ⟨x0, 0, none⟩) 1 1) 1 (Ls.mk node version fn epoch (tick + l)).cells.toList (by simp [Act.eval, Act.put]) HX2.out (by first | exact lcells_one _ | exact lc_one _ | simp) (by have h1 := HYL.out; have h2 := HTL.out; unfold maxLen; omega) (by have h1 := HYL.out; have h2 := HTL.out; omega) ?_
            intro v11 U4 O11 F11 G11
            have HO11 := hid O11
            have HV11 := hid (show ∀ k, Of v11 k → wM.heap.size ≤ k from fun k hk => (G11 k hk).elim (HV8.out k) (fun e => by rw [e]; exact HU3.out.size))
            have HU4 := hid (HU3.out.fresh F11 HV8.out)
            clear O11 F11 G11 HO8 HX2
            refine hK.out _ _ ?_ (fun hHeld => ?_)
            · (try dsimp only)
              first | assumption | exact KS.out _ HU4.out
            clear hK K
            try simp only [Act.put, List.setIfInBounds_toArray, List.set_cons_zero, List.set_cons_succ]
            refine wpAnyF_ready (rs := [18]) (by kernel_rfl) (by simp) ?_
            refine AllReadyF.cons (o := ⟨_, _, _, _, _, _⟩) rfl (fun K hK => ?_) AllReadyF.nil
            refine step_app _ rfl (.tmp 134) (.tmp 140) 38 rfl 30 zeroL 5 40 Try.underlying38 infoL rfl v11 (0 + t + 1) ([] ++ (lcells (ys.take t)) ++ (Ls.mk node version fn epoch (tick + l)).cells.toList) (by simp [Act.eval, Act.put]) HO11.out (.slice AD (ys.length - t) (c - t)) (ys.length - t) (lcells (ys.drop t)) (by simp [Act.eval, Act.put]) (HRD.out _ HU4.out) (by first | exact lcells_one _ | exact lc_one _ | simp) (by have h1 := HYL.out; have h2 := HTL.out; unfold maxLen; omega) (by have h1 := HYL.out; have h2 := HTL.out; omega) ?_
            intro v18 U5 O18 F18 G18
            have HW18 := hid (show ∀ k, Of v18 k → wM.heap.size ≤ k from fun k hk => (G18 k hk).elim (HV11.out k) (fun e => by rw [e]; exact HU4.out.size))
            have HV18 := hid (show ∀ k, Of v18 k → w.heap.size ≤ k from fun k hk => Nat.le_trans HGM.out.fr.size (HW18.out k hk))
            have HRL := hid HGM.out.res.lt
            have HU5 := hid (HU4.out.fresh F18 HV11.out)
            have HO18 := hid (show Own 30 5 U5 v18 (ys.take t ++ [(Ls.mk node version fn epoch (tick + l))] ++ ys.drop t).length (lcells (ys.take t ++ [(Ls.mk node version fn epoch (tick + l))] ++ ys.drop t)) from by
              have h1 : (ys.take t ++ [(Ls.mk node version fn epoch (tick + l))] ++ ys.drop t).length = 0 + t + 1 + (ys.length - t) := by have := HTL.out; simp; omega
              rw [h1, ← lcells_mid]
              exact O18)
            obtain ⟨A18, n18, c18, rfl⟩ : ∃ A n c, v18 = .slice A n c := by
              obtain ⟨A, c, h, _⟩ := HO18.out.slice
              exact ⟨_, _, _, h⟩
            have HGU := hid (HGM.out.keep HU5.out)
            clear O18 F18 G18 HO11
            refine hK.out _ _ ?_ (fun hHeld => ?_)
            · (try dsimp only)
              first | assumption | exact KS.out _ HU5.out
            clear hK K
            try simp only [Act.put, List.setIfInBounds_toArray, List.set_cons_zero, List.set_cons_succ]
            obtain ⟨g0, g1, g2, g3, gf⟩ := HGU.out.ref.blk.four
            clear KS HRT HRD
            refine wpAnyF_take (i := 19) (oi := ⟨_, _, _, _, _, _⟩) (v := ?_) rfl (by kernel_rfl) (by kernel_rfl) (by kernel_rfl) (by kernel_rfl) (fun _ _ _ h => h) (Or.inl ⟨by rfl, ?_⟩) (by assumption) ?_
            rotate_left
            · (intro w hSw; (try dsimp only at hSw); go_simp)
              try with_reducible rfl
            try simp only [Act.put, List.setIfInBounds_toArray, List.set_cons_zero, List.set_cons_succ]
            refine wpAnyF_take (i := 20) (oi := ⟨_, _, _, _, _, _⟩) (v := ?_) rfl (by kernel_rfl) (by kernel_rfl) (by kernel_rfl) (by kernel_rfl) (fun _ _ _ h => h) (Or.inl ⟨by rfl, ?_⟩) (by assumption) ?_
            rotate_left
            · (intro w hSw; (try dsimp only at hSw); go_simp)
              try with_reducible rfl
            try simp only [Act.put, List.setIfInBounds_toArray, List.set_cons_zero, List.set_cons_succ]
            refine wpAnyF_last (i := 21) (o := ⟨_, _, _, _, _, _⟩) (by kernel_rfl) rfl (by kernel_rfl) (by kernel_rfl) (fun K hK => ?_)
            go_simp
            refine hK.out _ _ ?_
            clear hK K g0 g1 g2 g3 gf
            have HR := hid (HGU.out.ref.anew HO18.out HGL.out HV18.out)
            have HFV := hid (show Fr (fun k => k = g) w (U5.setCell ⟨g, 3, none⟩ (.slice A18 n18 c18)) from Fr.setCell (S := fun k => k = g) (HGU.out.fr.mono (fun k _ h => absurd h (not_no k))) (p := ⟨g, 3, none⟩) (fun _ => rfl) _)
            have p3 := HGU.out.box.far (p := ⟨g, 3, none⟩) (by have h1 := HXE.out; have h2 := HRE.out; have h3 := HGL.out; show xb ≠ g; omega) (.slice A18 n18 c18)
            have p2 := HGU.out.res.far (p := ⟨g, 3, none⟩) (by have h2 := HRE.out; have h3 := HGL.out; show rb ≠ g; omega) (.slice A18 n18 c18)
            generalize U5.setCell ⟨g, 3, none⟩ (.slice A18 n18 c18) = V2 at HR HFV p2 p3 ⊢
            have z0 := p2.cell 0
            have z1 := p2.cell 1
            have z2 := p2.cell 2
            have z3 := p2.cell 3
            have z4 := p2.cell 4
            have zf := p2.frozen
            have x0 : V2.cell? ⟨xb, 0, none⟩ = some (.int .i64 node) := p3.cell 0
            have x1 : V2.cell? ⟨xb, 1, none⟩ = some (.int .i64 version) := p3.cell 1
            have x2 : V2.cell? ⟨xb, 2, none⟩ = some (.int .i64 fn) := p3.cell 2
            have x3 : V2.cell? ⟨xb, 3, none⟩ = some (.int .i64 epoch) := p3.cell 3
            have x4 : V2.cell? ⟨xb, 4, none⟩ = some (.int .i64 (tick + l)) := p3.cell 4
            clear p2 p3
            go_wp2_with fail
            refine ⟨rfl, ?_⟩
            refine ⟨.tuple #[.agg #[.int .i64 node, .int .i64 version, .int .i64 fn, .int .i64 epoch, .int .i64 (tick + l)], .int .i64 0], ?_, ?_⟩
            · have hres : Try.f20.results = #[.cell 12 30, .tmp 13] := rfl
              simp [results, hres, asAddr]
              try go_simp
              try rfl
            · exact ⟨t, htl, HB.out, .inr ⟨fun y hy => (by rw [HX.out] at hy; injection hy with hy; subst hy; exact HLT2.out), rfl, _, HR.out.far (by with_reducible repeat (first | exact Fr.refl _ _ | refine Fr.setCell (S := fun k => k = rb) ?_ (fun _ => rfl) _ | refine Fr.drew ?_)) (by have h1 := HGL.out; have h2 := HRE.out; omega) (fun k hk e => by have h1 := HW18.out k hk; have h2 := HRL.out; omega), (Fr.box (rb := rb) HFV.out (by with_reducible repeat (first | exact Fr.refl _ _ | refine Fr.setCell (S := fun k => k = rb) ?_ (fun _ => rfl) _ | refine Fr.drew ?_)) (by have := HRE.out; omega)).mono (fun k _ hk => .inl hk), fun k hk => .inr (HV18.out k hk)⟩⟩
          go_simp
          have HU1 := hid (show Fr No wM (wM.alloc (.cells #[] 30)).drew from ((Fr.refl No wM).alloc _).drew)
          have HE := hid (show Own 30 5 (wM.alloc (.cells #[] 30)).drew (.slice (some ⟨wM.heap.size, 0, none⟩) 0 0) 0 [] from Own.keep (Own.new wM 30 #[] 0 0 [] (by unfold maxLen; omega) (Nat.le_refl _) (by simp) (by simp)) ((Fr.refl No _).drew) (fun x _ => not_no x))
          generalize he0 : wM.heap.size = e0 at HE ⊢
          have HEB := hid (show wM.heap.size ≤ e0 from Nat.le_trans (Fr.refl No wM).size (Nat.le_of_eq he0))
          clear he0
          generalize (wM.alloc (.cells #[] 30)).drew = U1 at HU1 HE  ⊢
          refine hK.out _ _ ?_ (fun hHeld => ?_)
          · (try dsimp only)
            first | assumption | exact KS.out _ HU1.out
          clear hK K
          try simp only [Act.put, List.setIfInBounds_toArray, List.set_cons_zero, List.set_cons_succ]
          refine wpAnyF_ready (rs := [8, 10]) (by kernel_rfl) (by simp) ?_
          refine AllReadyF.cons (o := ⟨_, _, _, _, _, _⟩) rfl (fun K hK => ?_) ?_
          rotate_left
          · refine AllReadyF.cons (o := ⟨_, _, _, _, _, _⟩) rfl (fun K hK => ?_) AllReadyF.nil
            go_simp
            have HU2 := hid (show Fr No wM (U1.alloc (.cells #[.int .i64 node, .int .i64 version, .int .i64 fn, .int .i64 epoch, .int .i64 (tick + l)] 30)) from (HU1.out.alloc _))
            have HX2 := hid (show Rd 5 (U1.alloc (.cells #[.int .i64 node, .int .i64 version, .int .i64 fn, .int .i64 epoch, .int .i64 (tick + l)] 30)) (.slice (some ⟨U1.heap.size, 0, none⟩) 1 1) 1 (Ls.mk node version fn epoch (tick + l)).cells.toList from Rd.keep (Rd.lease U1 (Ls.mk node version fn epoch (tick + l))) (Fr.refl No _) (fun x _ => not_no x))
            have HXB := hid (show U1.heap.size < (U1.alloc (.cells #[.int .i64 node, .int .i64 version, .int .i64 fn, .int .i64 epoch, .int .i64 (tick + l)] 30)).heap.size by simp)
            have HNE := hid (show U1.heap.size ≠ e0 by have := Own.lt HE.out e0 (Of_some.2 rfl); omega)
            have HE := hid (Own.keep HE.out ((Fr.refl No U1).alloc (.cells #[.int .i64 node, .int .i64 version, .int .i64 fn, .int .i64 epoch, .int .i64 (tick + l)] 30)) (fun x _ => not_no x))
            generalize U1.heap.size = x0 at HX2 HXB HNE ⊢
            generalize (U1.alloc (.cells #[.int .i64 node, .int .i64 version, .int .i64 fn, .int .i64 epoch, .int .i64 (tick + l)] 30)) = U2 at HU2 HX2 HXB HE ⊢
            refine hK.out _ _ ?_ (fun hHeld => ?_)
            · (try dsimp only)
              first | assumption | exact KS.out _ HU2.out
            clear hK K
            try simp only [Act.put, List.setIfInBounds_toArray, List.set_cons_zero, List.set_cons_succ]
            refine wpAnyF_ready (rs := [8]) (by kernel_rfl) (by simp) ?_
            refine AllReadyF.cons (o := ⟨_, _, _, _, _, _⟩) rfl (fun K hK => ?_) AllReadyF.nil
            refine step_app _ rfl (.tmp 124) (.tmp 130) 38 rfl 30 zeroL 5 40 Try.underlying38 infoL rfl (.slice (some ⟨e0, 0, none⟩) 0 0) 0 [] (by simp [Act.eval, Act.put]) HE.out (.slice (some ⟨gA, 0, none⟩) t c) t (lcells (ys.take t)) (by simp [Act.eval, Act.put]) (HRT.out _ HU2.out) (by first | exact lcells_one _ | exact lc_one _ | simp) (by have h1 := HYL.out; have h2 := HTL.out; unfold maxLen; omega) (by have h1 := HYL.out; have h2 := HTL.out; omega) ?_
            intro v8 U3 O8 F8 G8
            have HO8 := hid (show Own 30 5 U3 v8 (0 + t) ([] ++ (lcells (ys.take t))) from O8)
            have HV8 := hid (show ∀ k, Of v8 k → wM.heap.size ≤ k from fun k hk => (G8 k hk).elim (fun h => by have h2 := HEB.out; have h3 : k = e0 := (by first | exact Of_some.1 h | exact (Of_some.1 h).symm); omega) (fun e => by rw [e]; exact HU2.out.size))
            have HU3 := hid (show Fr No wM U3 from HU2.out.fresh F8 (fun k hk => by have h2 := HEB.out; have h3 : k = e0 := (by first | exact Of_some.1 hk | exact (Of_some.1 hk).symm); omega))
            have HN8 := hid (show ∀ k, Of v8 k → x0 ≠ k from fun k hk => (G8 k hk).elim (fun h => by have h2 := HNE.out; have h3 : k = e0 := (by first | exact Of_some.1 h | exact (Of_some.1 h).symm); omega) (fun e => by have := HXB.out; omega))
            have HX2 := hid (Rd.keep HX2.out F8 (fun k hk h => by have h1 : k = e0 := (by first | exact Of_some.1 h | exact (Of_some.1 h).symm); have h4 : k = x0 := (by first | exact Of_some.1 hk | exact (Of_some.1 hk).symm); have := HNE.out; omega))
            clear O8 F8 G8 HE
            refine hK.out _ _ ?_ (fun hHeld => ?_)
            · (try dsimp only)
              first | assumption | exact KS.out _ HU3.out
            clear hK K
            try simp only [Act.put, List.setIfInBounds_toArray, List.set_cons_zero, List.set_cons_succ]
            refine wpAnyF_ready (rs := [11]) (by kernel_rfl) (by simp) ?_
            refine AllReadyF.cons (o := ⟨_, _, _, _, _, _⟩) rfl (fun K hK => ?_) AllReadyF.nil
            refine step_app _ rfl (.tmp 131) (.tmp 133) 38 rfl 30 zeroL 5 40 Try.underlying38 infoL rfl v8 (0 + t) ([] ++ (lcells (ys.take t))) (by simp [Act.eval, Act.put]) HO8.out (.slice (some ⟨x0, 0, none⟩) 1 1) 1 (Ls.mk node version fn epoch (tick + l)).cells.toList (by simp [Act.eval, Act.put]) HX2.out (by first | exact lcells_one _ | exact lc_one _ | simp) (by have h1 := HYL.out; have h2 := HTL.out; unfold maxLen; omega) (by have h1 := HYL.out; have h2 := HTL.out; omega) ?_
            intro v11 U4 O11 F11 G11
            have HO11 := hid O11
            have HV11 := hid (show ∀ k, Of v11 k → wM.heap.size ≤ k from fun k hk => (G11 k hk).elim (HV8.out k) (fun e => by rw [e]; exact HU3.out.size))
            have HU4 := hid (HU3.out.fresh F11 HV8.out)
            clear O11 F11 G11 HO8 HX2
            refine hK.out _ _ ?_ (fun hHeld => ?_)
            · (try dsimp only)
              first | assumption | exact KS.out _ HU4.out
            clear hK K
            try simp only [Act.put, List.setIfInBounds_toArray, List.set_cons_zero, List.set_cons_succ]
            refine wpAnyF_ready (rs := [18]) (by kernel_rfl) (by simp) ?_
            refine AllReadyF.cons (o := ⟨_, _, _, _, _, _⟩) rfl (fun K hK => ?_) AllReadyF.nil
            refine step_app _ rfl (.tmp 134) (.tmp 140) 38 rfl 30 zeroL 5 40 Try.underlying38 infoL rfl v11 (0 + t + 1) ([] ++ (lcells (ys.take t)) ++ (Ls.mk node version fn epoch (tick + l)).cells.toList) (by simp [Act.eval, Act.put]) HO11.out (.slice AD (ys.length - t) (c - t)) (ys.length - t) (lcells (ys.drop t)) (by simp [Act.eval, Act.put]) (HRD.out _ HU4.out) (by first | exact lcells_one _ | exact lc_one _ | simp) (by have h1 := HYL.out; have h2 := HTL.out; unfold maxLen; omega) (by have h1 := HYL.out; have h2 := HTL.out; omega) ?_
            intro v18 U5 O18 F18 G18
            have HW18 := hid (show ∀ k, Of v18 k → wM.heap.size ≤ k from fun k hk => (G18 k hk).elim (HV11.out k) (fun e => by rw [e]; exact HU4.out.size))
            have HV18 := hid (show ∀ k, Of v18 k → w.heap.size ≤ k from fun k hk => Nat.le_trans HGM.out.fr.size (HW18.out k hk))
            have HRL := hid HGM.out.res.lt
            have HU5 := hid (HU4.out.fresh F18 HV11.out)
            have HO18 := hid (show Own 30 5 U5 v18 (ys.take t ++ [(Ls.mk node version fn epoch (tick + l))] ++ ys.drop t).length (lcells (ys.take t ++ [(Ls.mk node version fn epoch (tick + l))] ++ ys.drop t)) from by
              have h1 : (ys.take t ++ [(Ls.mk node version fn epoch (tick + l))] ++ ys.drop t).length = 0 + t + 1 + (ys.length - t) := by have := HTL.out; simp; omega
              rw [h1, ← lcells_mid]
              exact O18)
            obtain ⟨A18, n18, c18, rfl⟩ : ∃ A n c, v18 = .slice A n c := by
              obtain ⟨A, c, h, _⟩ := HO18.out.slice
              exact ⟨_, _, _, h⟩
            have HGU := hid (HGM.out.keep HU5.out)
            clear O18 F18 G18 HO11
            refine hK.out _ _ ?_ (fun hHeld => ?_)
            · (try dsimp only)
              first | assumption | exact KS.out _ HU5.out
            clear hK K
            try simp only [Act.put, List.setIfInBounds_toArray, List.set_cons_zero, List.set_cons_succ]
            obtain ⟨g0, g1, g2, g3, gf⟩ := HGU.out.ref.blk.four
            clear KS HRT HRD
            refine wpAnyF_take (i := 19) (oi := ⟨_, _, _, _, _, _⟩) (v := ?_) rfl (by kernel_rfl) (by kernel_rfl) (by kernel_rfl) (by kernel_rfl) (fun _ _ _ h => h) (Or.inl ⟨by rfl, ?_⟩) (by assumption) ?_
            rotate_left
            · (intro w hSw; (try dsimp only at hSw); go_simp)
              try with_reducible rfl
            try simp only [Act.put, List.setIfInBounds_toArray, List.set_cons_zero, List.set_cons_succ]
            refine wpAnyF_take (i := 20) (oi := ⟨_, _, _, _, _, _⟩) (v := ?_) rfl (by kernel_rfl) (by kernel_rfl) (by kernel_rfl) (by kernel_rfl) (fun _ _ _ h => h) (Or.inl ⟨by rfl, ?_⟩) (by assumption) ?_
            rotate_left
            · (intro w hSw; (try dsimp only at hSw); go_simp)
              try with_reducible rfl
            try simp only [Act.put, List.setIfInBounds_toArray, List.set_cons_zero, List.set_cons_succ]
            refine wpAnyF_last (i := 21) (o := ⟨_, _, _, _, _, _⟩) (by kernel_rfl) rfl (by kernel_rfl) (by kernel_rfl) (fun K hK => ?_)
            go_simp
            refine hK.out _ _ ?_
            clear hK K g0 g1 g2 g3 gf
            have HR := hid (HGU.out.ref.anew HO18.out HGL.out HV18.out)
            have HFV := hid (show Fr (fun k => k = g) w (U5.setCell ⟨g, 3, none⟩ (.slice A18 n18 c18)) from Fr.setCell (S := fun k => k = g) (HGU.out.fr.mono (fun k _ h => absurd h (not_no k))) (p := ⟨g, 3, none⟩) (fun _ => rfl) _)
            have p3 := HGU.out.box.far (p := ⟨g, 3, none⟩) (by have h1 := HXE.out; have h2 := HRE.out; have h3 := HGL.out; show xb ≠ g; omega) (.slice A18 n18 c18)
            have p2 := HGU.out.res.far (p := ⟨g, 3, none⟩) (by have h2 := HRE.out; have h3 := HGL.out; show rb ≠ g; omega) (.slice A18 n18 c18)
            generalize U5.setCell ⟨g, 3, none⟩ (.slice A18 n18 c18) = V2 at HR HFV p2 p3 ⊢
            have z0 := p2.cell 0
            have z1 := p2.cell 1
            have z2 := p2.cell 2
            have z3 := p2.cell 3
            have z4 := p2.cell 4
            have zf := p2.frozen
            have x0 : V2.cell? ⟨xb, 0, none⟩ = some (.int .i64 node) := p3.cell 0
            have x1 : V2.cell? ⟨xb, 1, none⟩ = some (.int .i64 version) := p3.cell 1
            have x2 : V2.cell? ⟨xb, 2, none⟩ = some (.int .i64 fn) := p3.cell 2
            have x3 : V2.cell? ⟨xb, 3, none⟩ = some (.int .i64 epoch) := p3.cell 3
            have x4 : V2.cell? ⟨xb, 4, none⟩ = some (.int .i64 (tick + l)) := p3.cell 4
            clear p2 p3
            go_wp2_with fail
            refine ⟨rfl, ?_⟩
            refine ⟨.tuple #[.agg #[.int .i64 node, .int .i64 version, .int .i64 fn, .int .i64 epoch, .int .i64 (tick + l)], .int .i64 0], ?_, ?_⟩
            · have hres : Try.f20.results = #[.cell 12 30, .tmp 13] := rfl
              simp [results, hres, asAddr]
              try go_simp
              try rfl
            · exact ⟨t, htl, HB.out, .inr ⟨fun y hy => (by rw [HX.out] at hy; injection hy with hy; subst hy; exact HLT2.out), rfl, _, HR.out.far (by with_reducible repeat (first | exact Fr.refl _ _ | refine Fr.setCell (S := fun k => k = rb) ?_ (fun _ => rfl) _ | refine Fr.drew ?_)) (by have h1 := HGL.out; have h2 := HRE.out; omega) (fun k hk e => by have h1 := HW18.out k hk; have h2 := HRL.out; omega), (Fr.box (rb := rb) HFV.out (by with_reducible repeat (first | exact Fr.refl _ _ | refine Fr.setCell (S := fun k => k = rb) ?_ (fun _ => rfl) _ | refine Fr.drew ?_)) (by have := HRE.out; omega)).mono (fun k _ hk => .inl hk), fun k hk => .inr (HV18.out k hk)⟩⟩
          refine step_app _ rfl (.tmp 124) (.tmp 130) 38 rfl 30 zeroL 5 40 Try.underlying38 infoL rfl (.slice (some ⟨e0, 0, none⟩) 0 0) 0 [] (by simp [Act.eval, Act.put]) HE.out (.slice (some ⟨gA, 0, none⟩) t c) t (lcells (ys.take t)) (by simp [Act.eval, Act.put]) (HRT.out _ HU1.out) (by first | exact lcells_one _ | exact lc_one _ | simp) (by have h1 := HYL.out; have h2 := HTL.out; unfold maxLen; omega) (by have h1 := HYL.out; have h2 := HTL.out; omega) ?_
          intro v8 U2 O8 F8 G8
          have HO8 := hid (show Own 30 5 U2 v8 (0 + t) ([] ++ (lcells (ys.take t))) from O8)
          have HV8 := hid (show ∀ k, Of v8 k → wM.heap.size ≤ k from fun k hk => (G8 k hk).elim (fun h => by have h2 := HEB.out; have h3 : k = e0 := (by first | exact Of_some.1 h | exact (Of_some.1 h).symm); omega) (fun e => by rw [e]; exact HU1.out.size))
          have HU2 := hid (show Fr No wM U2 from HU1.out.fresh F8 (fun k hk => by have h2 := HEB.out; have h3 : k = e0 := (by first | exact Of_some.1 hk | exact (Of_some.1 hk).symm); omega))
          clear O8 F8 G8 HE
          refine hK.out _ _ ?_ (fun hHeld => ?_)
          · (try dsimp only)
            first | assumption | exact KS.out _ HU2.out
          clear hK K
          try simp only [Act.put, List.setIfInBounds_toArray, List.set_cons_zero, List.set_cons_succ]
          refine wpAnyF_ready (rs := [10]) (by kernel_rfl) (by simp) ?_
          refine AllReadyF.cons (o := ⟨_, _, _, _, _, _⟩) rfl (fun K hK => ?_) AllReadyF.nil
          go_simp
          have HU3 := hid (show Fr No wM (U2.alloc (.cells #[.int .i64 node, .int .i64 version, .int .i64 fn, .int .i64 epoch, .int .i64 (tick + l)] 30)) from (HU2.out.alloc _))
          have HX2 := hid (show Rd 5 (U2.alloc (.cells #[.int .i64 node, .int .i64 version, .int .i64 fn, .int .i64 epoch, .int .i64 (tick + l)] 30)) (.slice (some ⟨U2.heap.size, 0, none⟩) 1 1) 1 (Ls.mk node version fn epoch (tick + l)).cells.toList from Rd.keep (Rd.lease U2 (Ls.mk node version fn epoch (tick + l))) (Fr.refl No _) (fun x _ => not_no x))
          have HXB := hid (show U2.heap.size < (U2.alloc (.cells #[.int .i64 node, .int .i64 version, .int .i64 fn, .int .i64 epoch, .int .i64 (tick + l)] 30)).heap.size by simp)
          have HN8 := hid (show ∀ k, Of v8 k → U2.heap.size ≠ k from fun k hk => by have := Own.lt HO8.out k hk; omega)
          have HO8 := hid (Own.keep HO8.out ((Fr.refl No U2).alloc (.cells #[.int .i64 node, .int .i64 version, .int .i64 fn, .int .i64 epoch, .int .i64 (tick + l)] 30)) (fun x _ => not_no x))
          generalize U2.heap.size = x0 at HX2 HXB HN8 ⊢
          generalize (U2.alloc (.cells #[.int .i64 node, .int .i64 version, .int .i64 fn, .int .i64 epoch, .int .i64 (tick + l)] 30)) = U3 at HU3 HX2 HXB HO8 ⊢
          refine hK.out _ _ ?_ (fun hHeld => ?_)
          · (try dsimp only)
            first | assumption | exact KS.out _ HU3.out
          clear hK K
          try simp only [Act.put, List.setIfInBounds_toArray, List.set_cons_zero, List.set_cons_succ]
          refine wpAnyF_ready (rs := [11]) (by kernel_rfl) (by simp) ?_
          refine AllReadyF.cons (o := ⟨_, _, _, _, _, _⟩) rfl (fun K hK => ?_) AllReadyF.nil
          refine step_app _ rfl (.tmp 131) (.tmp 133) 38 rfl 30 zeroL 5 40 Try.underlying38 infoL rfl v8 (0 + t) ([] ++ (lcells (ys.take t))) (by simp [Act.eval, Act.put]) HO8.out (.slice (some ⟨x0, 0, none⟩) 1 1) 1 (Ls.mk node version fn epoch (tick + l)).cells.toList (by simp [Act.eval, Act.put]) HX2.out (by first | exact lcells_one _ | exact lc_one _ | simp) (by have h1 := HYL.out; have h2 := HTL.out; unfold maxLen; omega) (by have h1 := HYL.out; have h2 := HTL.out; omega) ?_
          intro v11 U4 O11 F11 G11
          have HO11 := hid O11
          have HV11 := hid (show ∀ k, Of v11 k → wM.heap.size ≤ k from fun k hk => (G11 k hk).elim (HV8.out k) (fun e => by rw [e]; exact HU3.out.size))
          have HU4 := hid (HU3.out.fresh F11 HV8.out)
          clear O11 F11 G11 HO8 HX2
          refine hK.out _ _ ?_ (fun hHeld => ?_)
          · (try dsimp only)
            first | assumption | exact KS.out _ HU4.out
          clear hK K
          try simp only [Act.put, List.setIfInBounds_toArray, List.set_cons_zero, List.set_cons_succ]
          refine wpAnyF_ready (rs := [18]) (by kernel_rfl) (by simp) ?_
          refine AllReadyF.cons (o := ⟨_, _, _, _, _, _⟩) rfl (fun K hK => ?_) AllReadyF.nil
          refine step_app _ rfl (.tmp 134) (.tmp 140) 38 rfl 30 zeroL 5 40 Try.underlying38 infoL rfl v11 (0 + t + 1) ([] ++ (lcells (ys.take t)) ++ (Ls.mk node version fn epoch (tick + l)).cells.toList) (by simp [Act.eval, Act.put]) HO11.out (.slice AD (ys.length - t) (c - t)) (ys.length - t) (lcells (ys.drop t)) (by simp [Act.eval, Act.put]) (HRD.out _ HU4.out) (by first | exact lcells_one _ | exact lc_one _ | simp) (by have h1 := HYL.out; have h2 := HTL.out; unfold maxLen; omega) (by have h1 := HYL.out; have h2 := HTL.out; omega) ?_
          intro v18 U5 O18 F18 G18
          have HW18 := hid (show ∀ k, Of v18 k → wM.heap.size ≤ k from fun k hk => (G18 k hk).elim (HV11.out k) (fun e => by rw [e]; exact HU4.out.size))
          have HV18 := hid (show ∀ k, Of v18 k → w.heap.size ≤ k from fun k hk => Nat.le_trans HGM.out.fr.size (HW18.out k hk))
          have HRL := hid HGM.out.res.lt
          have HU5 := hid (HU4.out.fresh F18 HV11.out)
          have HO18 := hid (show Own 30 5 U5 v18 (ys.take t ++ [(Ls.mk node version fn epoch (tick + l))] ++ ys.drop t).length (lcells (ys.take t ++ [(Ls.mk node version fn epoch (tick + l))] ++ ys.drop t)) from by
            have h1 : (ys.take t ++ [(Ls.mk node version fn epoch (tick + l))] ++ ys.drop t).length = 0 + t + 1 + (ys.length - t) := by have := HTL.out; simp; omega
            rw [h1, ← lcells_mid]
            exact O18)
          obtain ⟨A18, n18, c18, rfl⟩ : ∃ A n c, v18 = .slice A n c := by
            obtain ⟨A, c, h, _⟩ := HO18.out.slice
            exact ⟨_, _, _, h⟩
          have HGU := hid (HGM.out.keep HU5.out)
          clear O18 F18 G18 HO11
          refine hK.out _ _ ?_ (fun hHeld => ?_)
          · (try dsimp only)
            first | assumption | exact KS.out _ HU5.out
          clear hK K
          try simp only [Act.put, List.setIfInBounds_toArray, List.set_cons_zero, List.set_cons_succ]
          obtain ⟨g0, g1, g2, g3, gf⟩ := HGU.out.ref.blk.four
          clear KS HRT HRD
          refine wpAnyF_take (i := 19) (oi := ⟨_, _, _, _, _, _⟩) (v := ?_) rfl (by kernel_rfl) (by kernel_rfl) (by kernel_rfl) (by kernel_rfl) (fun _ _ _ h => h) (Or.inl ⟨by rfl, ?_⟩) (by assumption) ?_
          rotate_left
          · (intro w hSw; (try dsimp only at hSw); go_simp)
            try with_reducible rfl
          try simp only [Act.put, List.setIfInBounds_toArray, List.set_cons_zero, List.set_cons_succ]
          refine wpAnyF_take (i := 20) (oi := ⟨_, _, _, _, _, _⟩) (v := ?_) rfl (by kernel_rfl) (by kernel_rfl) (by kernel_rfl) (by kernel_rfl) (fun _ _ _ h => h) (Or.inl ⟨by rfl, ?_⟩) (by assumption) ?_
          rotate_left
          · (intro w hSw; (try dsimp only at hSw); go_simp)
            try with_reducible rfl
          try simp only [Act.put, List.setIfInBounds_toArray, List.set_cons_zero, List.set_cons_succ]
          refine wpAnyF_last (i := 21) (o := ⟨_, _, _, _, _, _⟩) (by kernel_rfl) rfl (by kernel_rfl) (by kernel_rfl) (fun K hK => ?_)
          go_simp
          refine hK.out _ _ ?_
          clear hK K g0 g1 g2 g3 gf
          have HR := hid (HGU.out.ref.anew HO18.out HGL.out HV18.out)
          have HFV := hid (show Fr (fun k => k = g) w (U5.setCell ⟨g, 3, none⟩ (.slice A18 n18 c18)) from Fr.setCell (S := fun k => k = g) (HGU.out.fr.mono (fun k _ h => absurd h (not_no k))) (p := ⟨g, 3, none⟩) (fun _ => rfl) _)
          have p3 := HGU.out.box.far (p := ⟨g, 3, none⟩) (by have h1 := HXE.out; have h2 := HRE.out; have h3 := HGL.out; show xb ≠ g; omega) (.slice A18 n18 c18)
          have p2 := HGU.out.res.far (p := ⟨g, 3, none⟩) (by have h2 := HRE.out; have h3 := HGL.out; show rb ≠ g; omega) (.slice A18 n18 c18)
          generalize U5.setCell ⟨g, 3, none⟩ (.slice A18 n18 c18) = V2 at HR HFV p2 p3 ⊢
          have z0 := p2.cell 0
          have z1 := p2.cell 1
          have z2 := p2.cell 2
          have z3 := p2.cell 3
          have z4 := p2.cell 4
          have zf := p2.frozen
          have x0 : V2.cell? ⟨xb, 0, none⟩ = some (.int .i64 node) := p3.cell 0
          have x1 : V2.cell? ⟨xb, 1, none⟩ = some (.int .i64 version) := p3.cell 1
          have x2 : V2.cell? ⟨xb, 2, none⟩ = some (.int .i64 fn) := p3.cell 2
          have x3 : V2.cell? ⟨xb, 3, none⟩ = some (.int .i64 epoch) := p3.cell 3
          have x4 : V2.cell? ⟨xb, 4, none⟩ = some (.int .i64 (tick + l)) := p3.cell 4
          clear p2 p3
          go_wp2_with fail
          refine ⟨rfl, ?_⟩
          refine ⟨.tuple #[.agg #[.int .i64 node, .int .i64 version, .int .i64 fn, .int .i64 epoch, .int .i64 (tick + l)], .int .i64 0], ?_, ?_⟩
          · have hres : Try.f20.results = #[.cell 12 30, .tmp 13] := rfl
            simp [results, hres, asAddr]
            try go_simp
            try rfl
          · exact ⟨t, htl, HB.out, .inr ⟨fun y hy => (by rw [HX.out] at hy; injection hy with hy; subst hy; exact HLT2.out), rfl, _, HR.out.far (by with_reducible repeat (first | exact Fr.refl _ _ | refine Fr.setCell (S := fun k => k = rb) ?_ (fun _ => rfl) _ | refine Fr.drew ?_)) (by have h1 := HGL.out; have h2 := HRE.out; omega) (fun k hk e => by have h1 := HW18.out k hk; have h2 := HRL.out; omega), (Fr.box (rb := rb) HFV.out (by with_reducible repeat (first | exact Fr.refl _ _ | refine Fr.setCell (S := fun k => k = rb) ?_ (fun _ => rfl) _ | refine Fr.drew ?_)) (by have := HRE.out; omega)).mono (fun k _ hk => .inl hk), fun k hk => .inr (HV18.out k hk)⟩⟩
      · have HLT := hid hlt
        clear hlt
        go_upto_region 7 with fail
        refine wp_region_held_drew (S := (fun w' => w'.cell? ⟨g, 3, none⟩ = some (.slice (some ⟨gA, 0, none⟩) ys.length c) ∧ w'.cell? ⟨xb, 0, none⟩ = some (.int .i64 node) ∧ w'.cell? ⟨xb, 1, none⟩ = some (.int .i64 version) ∧ w'.cell? ⟨xb, 2, none⟩ = some (.int .i64 fn) ∧ w'.cell? ⟨xb, 3, none⟩ = some (.int .i64 epoch) ∧ w'.cell? ⟨xb, 4, none⟩ = some (.int .i64 (tick + l)) ∧ w'.cell? ⟨gA, t * 5, none⟩ = some (.int .i64 b0) ∧ w'.cell? ⟨gA, t * 5 + 1, none⟩ = some (.int .i64 b1) ∧ w'.cell? ⟨gA, t * 5 + 2, none⟩ = some (.int .i64 b2) ∧ w'.cell? ⟨gA, t * 5 + 3, none⟩ = some (.int .i64 b3) ∧ w'.cell? ⟨gA, t * 5 + 4, none⟩ = some (.int .i64 b4))) (by kernel_rfl) ?_ (fun hHeld => ?_)
        · (try dsimp only)
          (refine KS.out _ ?_; with_reducible first | exact HFN.out | exact HFN.out.drew | exact (Fr.refl _ wr).drew | exact Fr.refl _ wr)
        refine wpAnyH_take (i := 0) (oi := ⟨_, _, _, _, _, _⟩) (v := ?_) rfl (by kernel_rfl) (by kernel_rfl) (by kernel_rfl) (fun _ _ _ h => h) (Or.inl ⟨by rfl, ?_⟩) (by assumption) ?_
        rotate_left
        · (intro w hSw; (try dsimp only at hSw); go_simp)
          try with_reducible rfl
        try simp only [Act.put, List.setIfInBounds_toArray, List.set_cons_zero, List.set_cons_succ]
        refine wpAnyH_take (i := 1) (oi := ⟨_, _, _, _, _, _⟩) (v := ?_) rfl (by kernel_rfl) (by kernel_rfl) (by kernel_rfl) (fun _ _ _ h => h) (Or.inl ⟨by rfl, ?_⟩) (by assumption) ?_
        rotate_left
        · (intro w hSw; (try dsimp only at hSw); go_simp)
          try with_reducible rfl
        try simp only [Act.put, List.setIfInBounds_toArray, List.set_cons_zero, List.set_cons_succ]
        refine wpAnyH_take (i := 2) (oi := ⟨_, _, _, _, _, _⟩) (v := ?_) rfl (by kernel_rfl) (by kernel_rfl) (by kernel_rfl) (fun _ _ _ h => h) (Or.inl ⟨by rfl, ?_⟩) (by assumption) ?_
        rotate_left
        · (intro w hSw; (try dsimp only at hSw); go_simp)
          try with_reducible rfl
        try simp only [Act.put, List.setIfInBounds_toArray, List.set_cons_zero, List.set_cons_succ]
        refine wpAnyH_take (i := 3) (oi := ⟨_, _, _, _, _, _⟩) (v := ?_) rfl (by kernel_rfl) (by kernel_rfl) (by kernel_rfl) (fun _ _ _ h => h) (Or.inl ⟨by rfl, ?_⟩) (by assumption) ?_
        rotate_left
        · (intro w hSw; (try dsimp only at hSw); go_simp)
          try with_reducible rfl
        try simp only [Act.put, List.setIfInBounds_toArray, List.set_cons_zero, List.set_cons_succ]
        refine wpAnyH_take (i := 4) (oi := ⟨_, _, _, _, _, _⟩) (v := ?_) rfl (by kernel_rfl) (by kernel_rfl) (by kernel_rfl) (fun _ _ _ h => h) (Or.inl ⟨by rfl, ?_⟩) (by assumption) ?_
        rotate_left
        · (intro w hSw; (try dsimp only at hSw); go_simp)
          try with_reducible rfl
        try simp only [Act.put, List.setIfInBounds_toArray, List.set_cons_zero, List.set_cons_succ]
        refine wpAnyH_take (i := 5) (oi := ⟨_, _, _, _, _, _⟩) (v := ?_) rfl (by kernel_rfl) (by kernel_rfl) (by kernel_rfl) (fun _ _ _ h => h) (Or.inl ⟨by rfl, ?_⟩) (by assumption) ?_
        rotate_left
        · (intro w hSw; (try dsimp only at hSw); go_simp)
          try with_reducible rfl
        try simp only [Act.put, List.setIfInBounds_toArray, List.set_cons_zero, List.set_cons_succ]
        refine wpAnyH_take (i := 6) (oi := ⟨_, _, _, _, _, _⟩) (v := ?_) rfl (by kernel_rfl) (by kernel_rfl) (by kernel_rfl) (fun _ _ _ h => h) (Or.inl ⟨by rfl, ?_⟩) (by assumption) ?_
        rotate_left
        · (intro w hSw; (try dsimp only at hSw); go_simp)
          try with_reducible rfl
        try simp only [Act.put, List.setIfInBounds_toArray, List.set_cons_zero, List.set_cons_succ]
        refine wpAnyH_take (i := 7) (oi := ⟨_, _, _, _, _, _⟩) (v := ?_) rfl (by kernel_rfl) (by kernel_rfl) (by kernel_rfl) (fun _ _ _ h => h) (Or.inl ⟨by rfl, ?_⟩) (by assumption) ?_
        rotate_left
        · (intro w hSw; (try dsimp only at hSw); go_simp)
          try with_reducible rfl
        try simp only [Act.put, List.setIfInBounds_toArray, List.set_cons_zero, List.set_cons_succ]
        refine wpAnyH_take (i := 8) (oi := ⟨_, _, _, _, _, _⟩) (v := ?_) rfl (by kernel_rfl) (by kernel_rfl) (by kernel_rfl) (fun _ _ _ h => h) (Or.inl ⟨by rfl, ?_⟩) (by assumption) ?_
        rotate_left
        · (intro w hSw; (try dsimp only at hSw); go_simp)
          try with_reducible rfl
        try simp only [Act.put, List.setIfInBounds_toArray, List.set_cons_zero, List.set_cons_succ]
        refine wpAnyH_take (i := 9) (oi := ⟨_, _, _, _, _, _⟩) (v := ?_) rfl (by kernel_rfl) (by kernel_rfl) (by kernel_rfl) (fun _ _ _ h => h) (Or.inl ⟨by rfl, ?_⟩) (by assumption) ?_
        rotate_left
        · (intro w hSw; (try dsimp only at hSw); go_simp)
          try with_reducible rfl
        try simp only [Act.put, List.setIfInBounds_toArray, List.set_cons_zero, List.set_cons_succ]
        refine wpAnyH_take (i := 10) (oi := ⟨_, _, _, _, _, _⟩) (v := ?_) rfl (by kernel_rfl) (by kernel_rfl) (by kernel_rfl) (fun _ _ _ h => h) (Or.inl ⟨by rfl, ?_⟩) (by assumption) ?_
        rotate_left
        · (intro w hSw; (try dsimp only at hSw); go_simp)
          try with_reducible rfl
        try simp only [Act.put, List.setIfInBounds_toArray, List.set_cons_zero, List.set_cons_succ]
        refine wpAnyH_take (i := 11) (oi := ⟨_, _, _, _, _, _⟩) (v := ?_) rfl (by kernel_rfl) (by kernel_rfl) (by kernel_rfl) (fun _ _ _ h => h) (Or.inl ⟨by rfl, ?_⟩) (by assumption) ?_
        rotate_left
        · (intro w hSw; (try dsimp only at hSw); go_simp)
          try with_reducible rfl
        try simp only [Act.put, List.setIfInBounds_toArray, List.set_cons_zero, List.set_cons_succ]
        refine wpAnyH_take (i := 12) (oi := ⟨_, _, _, _, _, _⟩) (v := ?_) rfl (by kernel_rfl) (by kernel_rfl) (by kernel_rfl) (fun _ _ _ h => h) (Or.inl ⟨by rfl, ?_⟩) (by assumption) ?_
        rotate_left
        · (intro w hSw; (try dsimp only at hSw); go_simp)
          try with_reducible rfl
        try simp only [Act.put, List.setIfInBounds_toArray, List.set_cons_zero, List.set_cons_succ]
        refine wpAnyH_take (i := 13) (oi := ⟨_, _, _, _, _, _⟩) (v := ?_) rfl (by kernel_rfl) (by kernel_rfl) (by kernel_rfl) (fun _ _ _ h => h) (Or.inl ⟨by rfl, ?_⟩) (by assumption) ?_
        rotate_left
        · (intro w hSw; (try dsimp only at hSw); go_simp)
          try with_reducible rfl
        try simp only [Act.put, List.setIfInBounds_toArray, List.set_cons_zero, List.set_cons_succ]
        refine wpAnyH_take (i := 14) (oi := ⟨_, _, _, _, _, _⟩) (v := ?_) rfl (by kernel_rfl) (by kernel_rfl) (by kernel_rfl) (fun _ _ _ h => h) (Or.inl ⟨by rfl, ?_⟩) (by assumption) ?_
        rotate_left
        · (intro w hSw; (try dsimp only at hSw); go_simp)
          try with_reducible rfl
        try simp only [Act.put, List.setIfInBounds_toArray, List.set_cons_zero, List.set_cons_succ]
        refine wpAnyH_take (i := 15) (oi := ⟨_, _, _, _, _, _⟩) (v := ?_) rfl (by kernel_rfl) (by kernel_rfl) (by kernel_rfl) (fun _ _ _ h => h) (Or.inl ⟨by rfl, ?_⟩) (by assumption) ?_
        rotate_left
        · (intro w hSw; (try dsimp only at hSw); go_simp)
          try with_reducible rfl
        try simp only [Act.put, List.setIfInBounds_toArray, List.set_cons_zero, List.set_cons_succ]
        refine wpAnyH_ready (rs := [16]) (by kernel_rfl) (by simp) ?_
        refine AllReadyH.cons (o := ⟨_, _, _, _, _, _⟩) rfl (fun K hK => ?_) ?_
        rotate_left
        · exact AllReadyH.nil
        go_simp
        refine (lessR_c _ (Ls.mk b0 b1 b2 b3 b4) (Ls.mk node version fn epoch (tick + l))).mono ?_
        rintro e wN ⟨rfl, fN⟩
        have HFN := hid (show Fr No wr wN from Fr.fresh_no (by with_reducible first | exact (Fr.refl No wr).drew | exact Fr.refl No wr) fN)
        clear fN
        rw [HLT.out]
        try go_wp2_with fail
        refine hK.out _ _ ?_ (fun hHeld => ?_)
        · (try dsimp only)
          first | assumption | (refine KS.out _ ?_; with_reducible first | exact HFN.out | exact HFN.out.drew | exact (Fr.refl _ wr).drew | exact Fr.refl _ wr)
        clear hK K
        try simp only [Act.put, List.setIfInBounds_toArray, List.set_cons_zero, List.set_cons_succ]
        refine wpAnyH_take (i := 17) (oi := ⟨_, _, _, _, _, _⟩) (v := ?_) rfl (by kernel_rfl) (by kernel_rfl) (by kernel_rfl) (fun _ _ _ h => h) (Or.inl ⟨by rfl, ?_⟩) (by assumption) ?_
        rotate_left
        · (intro w hSw; (try dsimp only at hSw); go_simp)
          try with_reducible rfl
        try simp only [Act.put, List.setIfInBounds_toArray, List.set_cons_zero, List.set_cons_succ]
        refine wpAnyH_done (by kernel_rfl) ?_ _
        have HGN := hid (HG.out.keep HFN.out)
        clear KS
        go_wp2_with fail
        go_roundg (ys.length - (t + 1))
        case measure => have := HQ.out; omega
        case rel => exact ⟨t + 1, by go_num, by omega, rfl, hid (fun z hz => by
          rw [List.take_add_one, HX.out] at hz
          rcases List.mem_append.1 hz with h | h
          · exact HB.out z h
          · simp at h; subst h; exact HLT.out), HGN⟩
    · have d4 : ¬ (t : Int) < ys.length := by omega
      have KS := hid (show ∀ w', Fr No wr w' → w'.cell? ⟨g, 3, none⟩ = some (.slice A ys.length c) ∧ w'.cell? ⟨xb, 0, none⟩ = some (.int .i64 node) ∧ w'.cell? ⟨xb, 1, none⟩ = some (.int .i64 version) ∧ w'.cell? ⟨xb, 2, none⟩ = some (.int .i64 fn) ∧ w'.cell? ⟨xb, 3, none⟩ = some (.int .i64 epoch) ∧ w'.cell? ⟨xb, 4, none⟩ = some (.int .i64 (tick + l)) from fun w' hf => by
        have q := HG.out.keep hf
        obtain ⟨_, _, _, e3, _⟩ := q.ref.blk.four
        exact ⟨e3, q.box.cell 0, q.box.cell 1, q.box.cell 2, q.box.cell 3, q.box.cell 4⟩)
      go_upto_region 7 with fail
      refine wp_region_held_drew (S := (fun w' => w'.cell? ⟨g, 3, none⟩ = some (.slice A ys.length c) ∧ w'.cell? ⟨xb, 0, none⟩ = some (.int .i64 node) ∧ w'.cell? ⟨xb, 1, none⟩ = some (.int .i64 version) ∧ w'.cell? ⟨xb, 2, none⟩ = some (.int .i64 fn) ∧ w'.cell? ⟨xb, 3, none⟩ = some (.int .i64 epoch) ∧ w'.cell? ⟨xb, 4, none⟩ = some (.int .i64 (tick + l)))) (by kernel_rfl) ?_ (fun hHeld => ?_)
      · (try dsimp only)
        (refine KS.out _ ?_; with_reducible first | exact HFN.out | exact HFN.out.drew | exact (Fr.refl _ wr).drew | exact Fr.refl _ wr)
      refine wpAnyH_take (i := 0) (oi := ⟨_, _, _, _, _, _⟩) (v := ?_) rfl (by kernel_rfl) (by kernel_rfl) (by kernel_rfl) (fun _ _ _ h => h) (Or.inl ⟨by rfl, ?_⟩) (by assumption) ?_
      rotate_left
      · (intro w hSw; (try dsimp only at hSw); go_simp)
        try with_reducible rfl
      try simp only [Act.put, List.setIfInBounds_toArray, List.set_cons_zero, List.set_cons_succ]
      refine wpAnyH_take (i := 1) (oi := ⟨_, _, _, _, _, _⟩) (v := ?_) rfl (by kernel_rfl) (by kernel_rfl) (by kernel_rfl) (fun _ _ _ h => h) (Or.inl ⟨by rfl, ?_⟩) (by assumption) ?_
      rotate_left
      · (intro w hSw; (try dsimp only at hSw); go_simp)
        try with_reducible rfl
      try simp only [Act.put, List.setIfInBounds_toArray, List.set_cons_zero, List.set_cons_succ]
      refine wpAnyH_take (i := 2) (oi := ⟨_, _, _, _, _, _⟩) (v := ?_) rfl (by kernel_rfl) (by kernel_rfl) (by kernel_rfl) (fun _ _ _ h => h) (Or.inl ⟨by rfl, ?_⟩) (by assumption) ?_
      rotate_left
      · (intro w hSw; (try dsimp only at hSw); go_simp)
        try with_reducible rfl
      try simp only [Act.put, List.setIfInBounds_toArray, List.set_cons_zero, List.set_cons_succ]
      refine wpAnyH_take (i := 3) (oi := ⟨_, _, _, _, _, _⟩) (v := ?_) rfl (by kernel_rfl) (by kernel_rfl) (by kernel_rfl) (fun _ _ _ h => h) (Or.inl ⟨by rfl, ?_⟩) (by assumption) ?_
      rotate_left
      · (intro w hSw; (try dsimp only at hSw); go_simp)
        try with_reducible rfl
      try simp only [Act.put, List.setIfInBounds_toArray, List.set_cons_zero, List.set_cons_succ]
      refine wpAnyH_take (i := 4) (oi := ⟨_, _, _, _, _, _⟩) (v := ?_) rfl (by kernel_rfl) (by kernel_rfl) (by kernel_rfl) (fun _ _ _ h => h) (Or.inl ⟨by rfl, ?_⟩) (by assumption) ?_
      rotate_left
      · (intro w hSw; (try dsimp only at hSw); go_simp)
        try with_reducible rfl
      try simp only [Act.put, List.setIfInBounds_toArray, List.set_cons_zero, List.set_cons_succ]
      refine wpAnyH_take (i := 5) (oi := ⟨_, _, _, _, _, _⟩) (v := ?_) rfl (by kernel_rfl) (by kernel_rfl) (by kernel_rfl) (fun _ _ _ h => h) (Or.inl ⟨by rfl, ?_⟩) (by assumption) ?_
      rotate_left
      · (intro w hSw; (try dsimp only at hSw); go_simp)
        try with_reducible rfl
      try simp only [Act.put, List.setIfInBounds_toArray, List.set_cons_zero, List.set_cons_succ]
      refine wpAnyH_take (i := 6) (oi := ⟨_, _, _, _, _, _⟩) (v := ?_) rfl (by kernel_rfl) (by kernel_rfl) (by kernel_rfl) (fun _ _ _ h => h) (Or.inl ⟨by rfl, ?_⟩) (by assumption) ?_
      rotate_left
      · (intro w hSw; (try dsimp only at hSw); go_simp)
        try with_reducible rfl
      try simp only [Act.put, List.setIfInBounds_toArray, List.set_cons_zero, List.set_cons_succ]
      refine wpAnyH_take (i := 7) (oi := ⟨_, _, _, _, _, _⟩) (v := ?_) rfl (by kernel_rfl) (by kernel_rfl) (by kernel_rfl) (fun _ _ _ h => h) (Or.inl ⟨by rfl, ?_⟩) (by assumption) ?_
      rotate_left
      · (intro w hSw; (try dsimp only at hSw); go_simp)
        try with_reducible rfl
      try simp only [Act.put, List.setIfInBounds_toArray, List.set_cons_zero, List.set_cons_succ]
      refine wpAnyH_take (i := 8) (oi := ⟨_, _, _, _, _, _⟩) (v := undef) rfl (by kernel_rfl) (by kernel_rfl) (by kernel_rfl) (fun _ _ _ h => h) (Or.inr ⟨by rfl, rfl⟩) (by assumption) ?_
      try simp only [Act.put, List.setIfInBounds_toArray, List.set_cons_zero, List.set_cons_succ]
      refine wpAnyH_take (i := 9) (oi := ⟨_, _, _, _, _, _⟩) (v := undef) rfl (by kernel_rfl) (by kernel_rfl) (by kernel_rfl) (fun _ _ _ h => h) (Or.inr ⟨by rfl, rfl⟩) (by assumption) ?_
      try simp only [Act.put, List.setIfInBounds_toArray, List.set_cons_zero, List.set_cons_succ]
      refine wpAnyH_take (i := 10) (oi := ⟨_, _, _, _, _, _⟩) (v := undef) rfl (by kernel_rfl) (by kernel_rfl) (by kernel_rfl) (fun _ _ _ h => h) (Or.inr ⟨by rfl, rfl⟩) (by assumption) ?_
      try simp only [Act.put, List.setIfInBounds_toArray, List.set_cons_zero, List.set_cons_succ]
      refine wpAnyH_take (i := 11) (oi := ⟨_, _, _, _, _, _⟩) (v := undef) rfl (by kernel_rfl) (by kernel_rfl) (by kernel_rfl) (fun _ _ _ h => h) (Or.inr ⟨by rfl, rfl⟩) (by assumption) ?_
      try simp only [Act.put, List.setIfInBounds_toArray, List.set_cons_zero, List.set_cons_succ]
      refine wpAnyH_take (i := 12) (oi := ⟨_, _, _, _, _, _⟩) (v := undef) rfl (by kernel_rfl) (by kernel_rfl) (by kernel_rfl) (fun _ _ _ h => h) (Or.inr ⟨by rfl, rfl⟩) (by assumption) ?_
      try simp only [Act.put, List.setIfInBounds_toArray, List.set_cons_zero, List.set_cons_succ]
      refine wpAnyH_take (i := 13) (oi := ⟨_, _, _, _, _, _⟩) (v := undef) rfl (by kernel_rfl) (by kernel_rfl) (by kernel_rfl) (fun _ _ _ h => h) (Or.inr ⟨by rfl, rfl⟩) (by assumption) ?_
      try simp only [Act.put, List.setIfInBounds_toArray, List.set_cons_zero, List.set_cons_succ]
      refine wpAnyH_take (i := 14) (oi := ⟨_, _, _, _, _, _⟩) (v := undef) rfl (by kernel_rfl) (by kernel_rfl) (by kernel_rfl) (fun _ _ _ h => h) (Or.inr ⟨by rfl, rfl⟩) (by assumption) ?_
      try simp only [Act.put, List.setIfInBounds_toArray, List.set_cons_zero, List.set_cons_succ]
      refine wpAnyH_take (i := 15) (oi := ⟨_, _, _, _, _, _⟩) (v := undef) rfl (by kernel_rfl) (by kernel_rfl) (by kernel_rfl) (fun _ _ _ h => h) (Or.inr ⟨by rfl, rfl⟩) (by assumption) ?_
      try simp only [Act.put, List.setIfInBounds_toArray, List.set_cons_zero, List.set_cons_succ]
      refine wpAnyH_take (i := 16) (oi := ⟨_, _, _, _, _, _⟩) (v := undef) rfl (by kernel_rfl) (by kernel_rfl) (by kernel_rfl) (fun _ _ _ h => h) (Or.inr ⟨by rfl, rfl⟩) (by assumption) ?_
      try simp only [Act.put, List.setIfInBounds_toArray, List.set_cons_zero, List.set_cons_succ]
      refine wpAnyH_take (i := 17) (oi := ⟨_, _, _, _, _, _⟩) (v := ?_) rfl (by kernel_rfl) (by kernel_rfl) (by kernel_rfl) (fun _ _ _ h => h) (Or.inl ⟨by rfl, ?_⟩) (by assumption) ?_
      rotate_left
      · (intro w hSw; (try dsimp only at hSw); go_simp)
        try with_reducible rfl
      try simp only [Act.put, List.setIfInBounds_toArray, List.set_cons_zero, List.set_cons_succ]
      refine wpAnyH_done (by kernel_rfl) ?_ _
      have HGN := hid (HG.out.keep (Fr.refl No wr).drew)
      clear KS
      go_wp2_with fail
      generalize wr.drew = wN at HGN ⊢
      have KS := hid (show ∀ w', Fr No wN w' → w'.cell? ⟨g, 3, none⟩ = some (.slice A ys.length c) ∧ w'.cell? ⟨xb, 0, none⟩ = some (.int .i64 node) ∧ w'.cell? ⟨xb, 1, none⟩ = some (.int .i64 version) ∧ w'.cell? ⟨xb, 2, none⟩ = some (.int .i64 fn) ∧ w'.cell? ⟨xb, 3, none⟩ = some (.int .i64 epoch) ∧ w'.cell? ⟨xb, 4, none⟩ = some (.int .i64 (tick + l)) from fun w' hf => by
        have q := HGN.out.keep hf
        obtain ⟨_, _, _, e3, _⟩ := q.ref.blk.four
        exact ⟨e3, q.box.cell 0, q.box.cell 1, q.box.cell 2, q.box.cell 3, q.box.cell 4⟩)
      go_upto_region 9 with fail
      refine wp_region_held_drew (S := (fun w' => w'.cell? ⟨g, 3, none⟩ = some (.slice A ys.length c) ∧ w'.cell? ⟨xb, 0, none⟩ = some (.int .i64 node) ∧ w'.cell? ⟨xb, 1, none⟩ = some (.int .i64 version) ∧ w'.cell? ⟨xb, 2, none⟩ = some (.int .i64 fn) ∧ w'.cell? ⟨xb, 3, none⟩ = some (.int .i64 epoch) ∧ w'.cell? ⟨xb, 4, none⟩ = some (.int .i64 (tick + l)))) (by kernel_rfl) ?_ (fun hHeld => ?_)
      · (try dsimp only)
        (refine KS.out _ ?_; with_reducible first | exact (Fr.refl _ wN).drew | exact Fr.refl _ wN)
      refine wpAnyH_take (i := 0) (oi := ⟨_, _, _, _, _, _⟩) (v := ?_) rfl (by kernel_rfl) (by kernel_rfl) (by kernel_rfl) (fun _ _ _ h => h) (Or.inl ⟨by rfl, ?_⟩) (by assumption) ?_
      rotate_left
      · (intro w hSw; (try dsimp only at hSw); go_simp)
        try with_reducible rfl
      try simp only [Act.put, List.setIfInBounds_toArray, List.set_cons_zero, List.set_cons_succ]
      refine wpAnyH_take (i := 1) (oi := ⟨_, _, _, _, _, _⟩) (v := ?_) rfl (by kernel_rfl) (by kernel_rfl) (by kernel_rfl) (fun _ _ _ h => h) (Or.inl ⟨by rfl, ?_⟩) (by assumption) ?_
      rotate_left
      · (intro w hSw; (try dsimp only at hSw); go_simp)
        try with_reducible rfl
      try simp only [Act.put, List.setIfInBounds_toArray, List.set_cons_zero, List.set_cons_succ]
      refine wpAnyH_take (i := 2) (oi := ⟨_, _, _, _, _, _⟩) (v := ?_) rfl (by kernel_rfl) (by kernel_rfl) (by kernel_rfl) (fun _ _ _ h => h) (Or.inl ⟨by rfl, ?_⟩) (by assumption) ?_
      rotate_left
      · (intro w hSw; (try dsimp only at hSw); go_simp)
        try with_reducible rfl
      try simp only [Act.put, List.setIfInBounds_toArray, List.set_cons_zero, List.set_cons_succ]
      refine wpAnyH_take (i := 3) (oi := ⟨_, _, _, _, _, _⟩) (v := ?_) rfl (by kernel_rfl) (by kernel_rfl) (by kernel_rfl) (fun _ _ _ h => h) (Or.inl ⟨by rfl, ?_⟩) (by assumption) ?_
      rotate_left
      · (intro w hSw; (try dsimp only at hSw); go_simp)
        try with_reducible rfl
      try simp only [Act.put, List.setIfInBounds_toArray, List.set_cons_zero, List.set_cons_succ]
      refine wpAnyH_take (i := 4) (oi := ⟨_, _, _, _, _, _⟩) (v := ?_) rfl (by kernel_rfl) (by kernel_rfl) (by kernel_rfl) (fun _ _ _ h => h) (Or.inl ⟨by rfl, ?_⟩) (by assumption) ?_
      rotate_left
      · (intro w hSw; (try dsimp only at hSw); go_simp)
        try with_reducible rfl
      try simp only [Act.put, List.setIfInBounds_toArray, List.set_cons_zero, List.set_cons_succ]
      refine wpAnyH_take (i := 5) (oi := ⟨_, _, _, _, _, _⟩) (v := ?_) rfl (by kernel_rfl) (by kernel_rfl) (by kernel_rfl) (fun _ _ _ h => h) (Or.inl ⟨by rfl, ?_⟩) (by assumption) ?_
      rotate_left
      · (intro w hSw; (try dsimp only at hSw); go_simp)
        try with_reducible rfl
      try simp only [Act.put, List.setIfInBounds_toArray, List.set_cons_zero, List.set_cons_succ]
      refine wpAnyH_take (i := 6) (oi := ⟨_, _, _, _, _, _⟩) (v := ?_) rfl (by kernel_rfl) (by kernel_rfl) (by kernel_rfl) (fun _ _ _ h => h) (Or.inl ⟨by rfl, ?_⟩) (by assumption) ?_
      rotate_left
      · (intro w hSw; (try dsimp only at hSw); go_simp)
        try with_reducible rfl
      try simp only [Act.put, List.setIfInBounds_toArray, List.set_cons_zero, List.set_cons_succ]
      refine wpAnyH_take (i := 7) (oi := ⟨_, _, _, _, _, _⟩) (v := ?_) rfl (by kernel_rfl) (by kernel_rfl) (by kernel_rfl) (fun _ _ _ h => h) (Or.inl ⟨by rfl, ?_⟩) (by assumption) ?_
      rotate_left
      · (intro w hSw; (try dsimp only at hSw); go_simp)
        try with_reducible rfl
      try simp only [Act.put, List.setIfInBounds_toArray, List.set_cons_zero, List.set_cons_succ]
      refine wpAnyH_take (i := 8) (oi := ⟨_, _, _, _, _, _⟩) (v := undef) rfl (by kernel_rfl) (by kernel_rfl) (by kernel_rfl) (fun _ _ _ h => h) (Or.inr ⟨by rfl, rfl⟩) (by assumption) ?_
      try simp only [Act.put, List.setIfInBounds_toArray, List.set_cons_zero, List.set_cons_succ]
      refine wpAnyH_take (i := 9) (oi := ⟨_, _, _, _, _, _⟩) (v := undef) rfl (by kernel_rfl) (by kernel_rfl) (by kernel_rfl) (fun _ _ _ h => h) (Or.inr ⟨by rfl, rfl⟩) (by assumption) ?_
      try simp only [Act.put, List.setIfInBounds_toArray, List.set_cons_zero, List.set_cons_succ]
      refine wpAnyH_take (i := 10) (oi := ⟨_, _, _, _, _, _⟩) (v := undef) rfl (by kernel_rfl) (by kernel_rfl) (by kernel_rfl) (fun _ _ _ h => h) (Or.inr ⟨by rfl, rfl⟩) (by assumption) ?_
      try simp only [Act.put, List.setIfInBounds_toArray, List.set_cons_zero, List.set_cons_succ]
      refine wpAnyH_take (i := 11) (oi := ⟨_, _, _, _, _, _⟩) (v := undef) rfl (by kernel_rfl) (by kernel_rfl) (by kernel_rfl) (fun _ _ _ h => h) (Or.inr ⟨by rfl, rfl⟩) (by assumption) ?_
      try simp only [Act.put, List.setIfInBounds_toArray, List.set_cons_zero, List.set_cons_succ]
      refine wpAnyH_take (i := 12) (oi := ⟨_, _, _, _, _, _⟩) (v := undef) rfl (by kernel_rfl) (by kernel_rfl) (by kernel_rfl) (fun _ _ _ h => h) (Or.inr ⟨by rfl, rfl⟩) (by assumption) ?_
      try simp only [Act.put, List.setIfInBounds_toArray, List.set_cons_zero, List.set_cons_succ]
      refine wpAnyH_take (i := 13) (oi := ⟨_, _, _, _, _, _⟩) (v := undef) rfl (by kernel_rfl) (by kernel_rfl) (by kernel_rfl) (fun _ _ _ h => h) (Or.inr ⟨by rfl, rfl⟩) (by assumption) ?_
      try simp only [Act.put, List.setIfInBounds_toArray, List.set_cons_zero, List.set_cons_succ]
      refine wpAnyH_take (i := 14) (oi := ⟨_, _, _, _, _, _⟩) (v := undef) rfl (by kernel_rfl) (by kernel_rfl) (by kernel_rfl) (fun _ _ _ h => h) (Or.inr ⟨by rfl, rfl⟩) (by assumption) ?_
      try simp only [Act.put, List.setIfInBounds_toArray, List.set_cons_zero, List.set_cons_succ]
      refine wpAnyH_take (i := 15) (oi := ⟨_, _, _, _, _, _⟩) (v := undef) rfl (by kernel_rfl) (by kernel_rfl) (by kernel_rfl) (fun _ _ _ h => h) (Or.inr ⟨by rfl, rfl⟩) (by assumption) ?_
      try simp only [Act.put, List.setIfInBounds_toArray, List.set_cons_zero, List.set_cons_succ]
      refine wpAnyH_take (i := 16) (oi := ⟨_, _, _, _, _, _⟩) (v := undef) rfl (by kernel_rfl) (by kernel_rfl) (by kernel_rfl) (fun _ _ _ h => h) (Or.inr ⟨by rfl, rfl⟩) (by assumption) ?_
      try simp only [Act.put, List.setIfInBounds_toArray, List.set_cons_zero, List.set_cons_succ]
      refine wpAnyH_take (i := 17) (oi := ⟨_, _, _, _, _, _⟩) (v := undef) rfl (by kernel_rfl) (by kernel_rfl) (by kernel_rfl) (fun _ _ _ h => h) (Or.inr ⟨by rfl, rfl⟩) (by assumption) ?_
      try simp only [Act.put, List.setIfInBounds_toArray, List.set_cons_zero, List.set_cons_succ]
      refine wpAnyH_take (i := 18) (oi := ⟨_, _, _, _, _, _⟩) (v := ?_) rfl (by kernel_rfl) (by kernel_rfl) (by kernel_rfl) (fun _ _ _ h => h) (Or.inl ⟨by rfl, ?_⟩) (by assumption) ?_
      rotate_left
      · (intro w hSw; (try dsimp only at hSw); go_simp)
        try with_reducible rfl
      try simp only [Act.put, List.setIfInBounds_toArray, List.set_cons_zero, List.set_cons_succ]
      refine wpAnyH_done (by kernel_rfl) ?_ _
      have HGM := hid (HGN.out.keep (Fr.refl No wN).drew)
      generalize wN.drew = wM at HGM ⊢
      clear KS
      rcases HGM.out.ref.own.2 with ⟨hv0, h0⟩ | ⟨gA, cap, cur, hv0, _⟩
      · injection hv0 with e1 e2 e3
        subst e1 e3
        have hy0 : ys = [] := List.eq_nil_of_length_eq_zero h0
        subst hy0
        have ht0 : t = 0 := by simpa using htl
        subst ht0
        clear h0 e2
        have KS := hid (show ∀ w', Fr No wM w' → w'.cell? ⟨g, 3, none⟩ = some (.slice none 0 0) ∧ w'.cell? ⟨xb, 0, none⟩ = some (.int .i64 node) ∧ w'.cell? ⟨xb, 1, none⟩ = some (.int .i64 version) ∧ w'.cell? ⟨xb, 2, none⟩ = some (.int .i64 fn) ∧ w'.cell? ⟨xb, 3, none⟩ = some (.int .i64 epoch) ∧ w'.cell? ⟨xb, 4, none⟩ = some (.int .i64 (tick + l)) from fun w' hf => by
          have q := HGM.out.keep hf
          obtain ⟨_, _, _, e3, _⟩ := q.ref.blk.four
          exact ⟨e3, q.box.cell 0, q.box.cell 1, q.box.cell 2, q.box.cell 3, q.box.cell 4⟩)
        have HRT := hid (show ∀ w', Fr No wM w' → Rd 5 w' (.slice none 0 0) 0 [] from fun w' _ => Rd.nil 5 w')
        have HRD := HRT
        have HTL := hid (show True from trivial)
        have HYL := hid hl
        go_upto_region 15 with fail
        refine wp_region_F (S := (fun w' => w'.cell? ⟨g, 3, none⟩ = some (.slice none 0 0) ∧ w'.cell? ⟨xb, 0, none⟩ = some (.int .i64 node) ∧ w'.cell? ⟨xb, 1, none⟩ = some (.int .i64 version) ∧ w'.cell? ⟨xb, 2, none⟩ = some (.int .i64 fn) ∧ w'.cell? ⟨xb, 3, none⟩ = some (.int .i64 epoch) ∧ w'.cell? ⟨xb, 4, none⟩ = some (.int .i64 (tick + l)))) (by kernel_rfl) ?_ (fun hHeld => ?_)
        · (try dsimp only)
          (refine KS.out _ ?_; with_reducible first | exact (Fr.refl _ wM).drew | exact Fr.refl _ wM)
        refine wpAnyF_take (i := 0) (oi := ⟨_, _, _, _, _, _⟩) (v := ?_) rfl (by kernel_rfl) (by kernel_rfl) (by kernel_rfl) (by kernel_rfl) (fun _ _ _ h => h) (Or.inl ⟨by rfl, ?_⟩) (by assumption) ?_
        rotate_left
        · (intro w hSw; (try dsimp only at hSw); go_simp)
          try with_reducible rfl
        try simp only [Act.put, List.setIfInBounds_toArray, List.set_cons_zero, List.set_cons_succ]
        refine wpAnyF_take (i := 2) (oi := ⟨_, _, _, _, _, _⟩) (v := ?_) rfl (by kernel_rfl) (by kernel_rfl) (by kernel_rfl) (by kernel_rfl) (fun _ _ _ h => h) (Or.inl ⟨by rfl, ?_⟩) (by assumption) ?_
        rotate_left
        · (intro w hSw; (try dsimp only at hSw); go_simp)
          try with_reducible rfl
        try simp only [Act.put, List.setIfInBounds_toArray, List.set_cons_zero, List.set_cons_succ]
        refine wpAnyF_take (i := 3) (oi := ⟨_, _, _, _, _, _⟩) (v := ?_) rfl (by kernel_rfl) (by kernel_rfl) (by kernel_rfl) (by kernel_rfl) (fun _ _ _ h => h) (Or.inl ⟨by rfl, ?_⟩) (by assumption) ?_
        rotate_left
        · (intro w hSw; (try dsimp only at hSw); go_simp)
          try with_reducible rfl
        try simp only [Act.put, List.setIfInBounds_toArray, List.set_cons_zero, List.set_cons_succ]
        refine wpAnyF_take (i := 4) (oi := ⟨_, _, _, _, _, _⟩) (v := ?_) rfl (by kernel_rfl) (by kernel_rfl) (by kernel_rfl) (by kernel_rfl) (fun _ _ _ h => h) (Or.inl ⟨by rfl, ?_⟩) (by assumption) ?_
        rotate_left
        · (intro w hSw; (try dsimp only at hSw); go_simp)
          try with_reducible rfl
        try simp only [Act.put, List.setIfInBounds_toArray, List.set_cons_zero, List.set_cons_succ]
        refine wpAnyF_take (i := 5) (oi := ⟨_, _, _, _, _, _⟩) (v := ?_) rfl (by kernel_rfl) (by kernel_rfl) (by kernel_rfl) (by kernel_rfl) (fun _ _ _ h => h) (Or.inl ⟨by rfl, ?_⟩) (by assumption) ?_
        rotate_left
        · (intro w hSw; (try dsimp only at hSw); go_simp)
          try with_reducible rfl
        try simp only [Act.put, List.setIfInBounds_toArray, List.set_cons_zero, List.set_cons_succ]
        refine wpAnyF_take (i := 6) (oi := ⟨_, _, _, _, _, _⟩) (v := ?_) rfl (by kernel_rfl) (by kernel_rfl) (by kernel_rfl) (by kernel_rfl) (fun _ _ _ h => h) (Or.inl ⟨by rfl, ?_⟩) (by assumption) ?_
        rotate_left
        · (intro w hSw; (try dsimp only at hSw); go_simp)
          try with_reducible rfl
        try simp only [Act.put, List.setIfInBounds_toArray, List.set_cons_zero, List.set_cons_succ]
        refine wpAnyF_take (i := 7) (oi := ⟨_, _, _, _, _, _⟩) (v := ?_) rfl (by kernel_rfl) (by kernel_rfl) (by kernel_rfl) (by kernel_rfl) (fun _ _ _ h => h) (Or.inl ⟨by rfl, ?_⟩) (by assumption) ?_
        rotate_left
        · (intro w hSw; (try dsimp only at hSw); go_simp)
          try with_reducible rfl
        try simp only [Act.put, List.setIfInBounds_toArray, List.set_cons_zero, List.set_cons_succ]
        refine wpAnyF_take (i := 9) (oi := ⟨_, _, _, _, _, _⟩) (v := ?_) rfl (by kernel_rfl) (by kernel_rfl) (by kernel_rfl) (by kernel_rfl) (fun _ _ _ h => h) (Or.inl ⟨by rfl, ?_⟩) (by assumption) ?_
        rotate_left
        · (intro w hSw; (try dsimp only at hSw); go_simp)
          try with_reducible rfl
        try simp only [Act.put, List.setIfInBounds_toArray, List.set_cons_zero, List.set_cons_succ]
        refine wpAnyF_take (i := 12) (oi := ⟨_, _, _, _, _, _⟩) (v := ?_) rfl (by kernel_rfl) (by kernel_rfl) (by kernel_rfl) (by kernel_rfl) (fun _ _ _ h => h) (Or.inl ⟨by rfl, ?_⟩) (by assumption) ?_
        rotate_left
        · (intro w hSw; (try dsimp only at hSw); go_simp)
          try with_reducible rfl
        try simp only [Act.put, List.setIfInBounds_toArray, List.set_cons_zero, List.set_cons_succ]
        refine wpAnyF_take (i := 13) (oi := ⟨_, _, _, _, _, _⟩) (v := ?_) rfl (by kernel_rfl) (by kernel_rfl) (by kernel_rfl) (by kernel_rfl) (fun _ _ _ h => h) (Or.inl ⟨by rfl, ?_⟩) (by assumption) ?_
        rotate_left
        · (intro w hSw; (try dsimp only at hSw); go_simp)
          try with_reducible rfl
        try simp only [Act.put, List.setIfInBounds_toArray, List.set_cons_zero, List.set_cons_succ]
        refine wpAnyF_take (i := 14) (oi := ⟨_, _, _, _, _, _⟩) (v := ?_) rfl (by kernel_rfl) (by kernel_rfl) (by kernel_rfl) (by kernel_rfl) (fun _ _ _ h => h) (Or.inl ⟨by rfl, ?_⟩) (by assumption) ?_
        rotate_left
        · (intro w hSw; (try dsimp only at hSw); go_simp)
          try with_reducible rfl
        try simp only [Act.put, List.setIfInBounds_toArray, List.set_cons_zero, List.set_cons_succ]
        refine wpAnyF_take (i := 15) (oi := ⟨_, _, _, _, _, _⟩) (v := ?_) rfl (by kernel_rfl) (by kernel_rfl) (by kernel_rfl) (by kernel_rfl) (fun _ _ _ h => h) (Or.inl ⟨by rfl, ?_⟩) (by assumption) ?_
        rotate_left
        · (intro w hSw; (try dsimp only at hSw); go_simp)
          try with_reducible rfl
        try simp only [Act.put, List.setIfInBounds_toArray, List.set_cons_zero, List.set_cons_succ]
        refine wpAnyF_take (i := 16) (oi := ⟨_, _, _, _, _, _⟩) (v := ?_) rfl (by kernel_rfl) (by kernel_rfl) (by kernel_rfl) (by kernel_rfl) (fun _ _ _ h => h) (Or.inl ⟨by rfl, ?_⟩) (by assumption) ?_
        rotate_left
        · (intro w hSw; (try dsimp only at hSw); go_simp)
          try with_reducible rfl
        try simp only [Act.put, List.setIfInBounds_toArray, List.set_cons_zero, List.set_cons_succ]
        refine wpAnyF_take (i := 17) (oi := ⟨_, _, _, _, _, _⟩) (v := ?_) rfl (by kernel_rfl) (by kernel_rfl) (by kernel_rfl) (by kernel_rfl) (fun _ _ _ h => h) (Or.inl ⟨by rfl, ?_⟩) (by assumption) ?_
        rotate_left
        · (intro w hSw; (try dsimp only at hSw); go_simp)
          try with_reducible rfl
        try simp only [Act.put, List.setIfInBounds_toArray, List.set_cons_zero, List.set_cons_succ]
        refine wpAnyF_ready (rs := [1, 10]) (by kernel_rfl) (by simp) ?_
        refine AllReadyF.cons (o := ⟨_, _, _, _, _, _⟩) rfl (fun K hK => ?_) ?_
        rotate_left
        · refine AllReadyF.cons (o := ⟨_, _, _, _, _, _⟩) rfl (fun K hK => ?_) AllReadyF.nil
          go_simp
          have HU1 := hid (show Fr No wM (wM.alloc (.cells #[.int .i64 node, .int .i64 version, .int .i64 fn, .int .i64 epoch, .int .i64 (tick + l)] 30)).drew from ((Fr.refl No wM).alloc _).drew)
          have HX2 := hid (show Rd 5 (wM.alloc (.cells #[.int .i64 node, .int .i64 version, .int .i64 fn, .int .i64 epoch, .int .i64 (tick + l)] 30)).drew (.slice (some ⟨wM.heap.size, 0, none⟩) 1 1) 1 (Ls.mk node version fn epoch (tick + l)).cells.toList from Rd.keep (Rd.lease wM (Ls.mk node version fn epoch (tick + l))) ((Fr.refl No _).drew) (fun x _ => not_no x))
          have HXB := hid (show wM.heap.size < (wM.alloc (.cells #[.int .i64 node, .int .i64 version, .int .i64 fn, .int .i64 epoch, .int .i64 (tick + l)] 30)).drew.heap.size by simp)
          generalize wM.heap.size = x0 at HX2 HXB  ⊢
          generalize (wM.alloc (.cells #[.int .i64 node, .int .i64 version, .int .i64 fn, .int .i64 epoch, .int .i64 (tick + l)] 30)).drew = U1 at HU1 HX2 HXB  ⊢
          refine hK.out _ _ ?_ (fun hHeld => ?_)
          · (try dsimp only)
            first | assumption | exact KS.out _ HU1.out
          clear hK K
          try simp only [Act.put, List.setIfInBounds_toArray, List.set_cons_zero, List.set_cons_succ]
          refine wpAnyF_ready (rs := [1]) (by kernel_rfl) (by simp) ?_
          refine AllReadyF.cons (o := ⟨_, _, _, _, _, _⟩) rfl (fun K hK => ?_) AllReadyF.nil
          go_simp
          have HU2 := hid (show Fr No wM (U1.alloc (.cells #[] 30)) from (HU1.out.alloc _))
          have HE := hid (show Own 30 5 (U1.alloc (.cells #[] 30)) (.slice (some ⟨U1.heap.size, 0, none⟩) 0 0) 0 [] from Own.keep (Own.new U1 30 #[] 0 0 [] (by unfold maxLen; omega) (Nat.le_refl _) (by simp) (by simp)) (Fr.refl No _) (fun x _ => not_no x))
          have HX2 := hid (Rd.keep HX2.out ((Fr.refl No U1).alloc (.cells #[] 30)) (fun x _ => not_no x))
          have HNE := hid (show x0 ≠ U1.heap.size by have := HXB.out; omega)
          have HXB := hid (show x0 < (U1.alloc (.cells #[] 30)).heap.size by have := HXB.out; simp; omega)
          generalize he0 : U1.heap.size = e0 at HE HNE ⊢
          have HEB := hid (show wM.heap.size ≤ e0 from Nat.le_trans HU1.out.size (Nat.le_of_eq he0))
          clear he0
          generalize (U1.alloc (.cells #[] 30)) = U2 at HU2 HE HX2 HXB ⊢
          refine hK.out _ _ ?_ (fun hHeld => ?_)
          · (try dsimp only)
            first | assumption | exact KS.out _ HU2.out
          clear hK K
          try simp only [Act.put, List.setIfInBounds_toArray, List.set_cons_zero, List.set_cons_succ]
          refine wpAnyF_ready (rs := [8]) (by kernel_rfl) (by simp) ?_
          refine AllReadyF.cons (o := ⟨_, _, _, _, _, _⟩) rfl (fun K hK => ?_) AllReadyF.nil
          refine step_app _ rfl (.tmp 124) (.tmp 130) 38 rfl 30 zeroL 5 40 Try.underlying38 infoL rfl (.slice (some ⟨e0, 0, none⟩) 0 0) 0 [] (by simp [Act.eval, Act.put]) HE.out (.slice none 0 0) 0 [] (by simp [Act.eval, Act.put]) (HRT.out _ HU2.out) (by first | exact lcells_one _ | exact lc_one _ | simp) (by have h1 := HYL.out; have h2 := HTL.out; unfold maxLen; omega) (by have h1 := HYL.out; have h2 := HTL.out; omega) ?_
          intro v8 U3 O8 F8 G8
          have HO8 := hid (show Own 30 5 U3 v8 (0 + 0) ([] ++ []) from O8)
          have HV8 := hid (show ∀ k, Of v8 k → wM.heap.size ≤ k from fun k hk => (G8 k hk).elim (fun h => by have h2 := HEB.out; have h3 : k = e0 := (by first | exact Of_some.1 h | exact (Of_some.1 h).symm); omega) (fun e => by rw [e]; exact HU2.out.size))
          have HU3 := hid (show Fr No wM U3 from HU2.out.fresh F8 (fun k hk => by have h2 := HEB.out; have h3 : k = e0 := (by first | exact Of_some.1 hk | exact (Of_some.1 hk).symm); omega))
          have HN8 := hid (show ∀ k, Of v8 k → x0 ≠ k from fun k hk => (G8 k hk).elim (fun h => by have h2 := HNE.out; have h3 : k = e0 := (by first | exact Of_some.1 h | exact (Of_some.1 h).symm); omega) (fun e => by have := HXB.out; omega))
          have HX2 := hid (Rd.keep HX2.out F8 (fun k hk h => by have h1 : k = e0 := (by first | exact Of_some.1 h | exact (Of_some.1 h).symm); have h4 : k = x0 := (by first | exact Of_some.1 hk | exact (Of_some.1 hk).symm); have := HNE.out; omega))
          clear O8 F8 G8 HE
          refine hK.out _ _ ?_ (fun hHeld => ?_)
          · (try dsimp only)
            first | assumption | exact KS.out _ HU3.out
          clear hK K
          try simp only [Act.put, List.setIfInBounds_toArray, List.set_cons_zero, List.set_cons_succ]
          refine wpAnyF_ready (rs := [11]) (by kernel_rfl) (by simp) ?_
          refine AllReadyF.cons (o := ⟨_, _, _, _, _, _⟩) rfl (fun K hK => ?_) AllReadyF.nil
          refine step_app _ rfl (.tmp 131) (.tmp 133) 38 rfl 30 zeroL 5 40 Try.underlying38 infoL rfl v8 (0 + 0) ([] ++ []) (by simp [Act.eval, Act.put]) HO8.out (.slice (some ⟨x0, 0, none⟩) 1 1) 1 (Ls.mk node version fn epoch (tick + l)).cells.toList (by simp [Act.eval, Act.put]) HX2.out (by first | exact lcells_one _ | exact lc_one _ | simp) (by have h1 := HYL.out; have h2 := HTL.out; unfold maxLen; omega) (by have h1 := HYL.out; have h2 := HTL.out; omega) ?_
          intro v11 U4 O11 F11 G11
          have HO11 := hid O11
          have HV11 := hid (show ∀ k, Of v11 k → wM.heap.size ≤ k from fun k hk => (G11 k hk).elim (HV8.out k) (fun e => by rw [e]; exact HU3.out.size))
          have HU4 := hid (HU3.out.fresh F11 HV8.out)
          clear O11 F11 G11 HO8 HX2
          refine hK.out _ _ ?_ (fun hHeld => ?_)
          · (try dsimp only)
            first | assumption | exact KS.out _ HU4.out
          clear hK K
          try simp only [Act.put, List.setIfInBounds_toArray, List.set_cons_zero, List.set_cons_succ]
          refine wpAnyF_ready (rs := [18]) (by kernel_rfl) (by simp) ?_
          refine AllReadyF.cons (o := ⟨_, _, _, _, _, _⟩) rfl (fun K hK => ?_) AllReadyF.nil
          refine step_app _ rfl (.tmp 134) (.tmp 140) 38 rfl 30 zeroL 5 40 Try.underlying38 infoL rfl v11 (0 + 0 + 1) ([] ++ [] ++ (Ls.mk node version fn epoch (tick + l)).cells.toList) (by simp [Act.eval, Act.put]) HO11.out (.slice none 0 0) 0 [] (by simp [Act.eval, Act.put]) (HRD.out _ HU4.out) (by first | exact lcells_one _ | exact lc_one _ | simp) (by have h1 := HYL.out; have h2 := HTL.out; unfold maxLen; omega) (by have h1 := HYL.out; have h2 := HTL.out; omega) ?_
          intro v18 U5 O18 F18 G18
          have HW18 := hid (show ∀ k, Of v18 k → wM.heap.size ≤ k from fun k hk => (G18 k hk).elim (HV11.out k) (fun e => by rw [e]; exact HU4.out.size))
          have HV18 := hid (show ∀ k, Of v18 k → w.heap.size ≤ k from fun k hk => Nat.le_trans HGM.out.fr.size (HW18.out k hk))
          have HRL := hid HGM.out.res.lt
          have HU5 := hid (HU4.out.fresh F18 HV11.out)
          have HO18 := hid (show Own 30 5 U5 v18 ([(Ls.mk node version fn epoch (tick + l))] : List Ls).length (lcells [(Ls.mk node version fn epoch (tick + l))]) from O18)
          obtain ⟨A18, n18, c18, rfl⟩ : ∃ A n c, v18 = .slice A n c := by
            obtain ⟨A, c, h, _⟩ := HO18.out.slice
            exact ⟨_, _, _, h⟩
          have HGU := hid (HGM.out.keep HU5.out)
          clear O18 F18 G18 HO11
          refine hK.out _ _ ?_ (fun hHeld => ?_)
          · (try dsimp only)
            first | assumption | exact KS.out _ HU5.out
          clear hK K
          try simp only [Act.put, List.setIfInBounds_toArray, List.set_cons_zero, List.set_cons_succ]
          obtain ⟨g0, g1, g2, g3, gf⟩ := HGU.out.ref.blk.four
          clear KS HRT HRD
          refine wpAnyF_take (i := 19) (oi := ⟨_, _, _, _, _, _⟩) (v := ?_) rfl (by kernel_rfl) (by kernel_rfl) (by kernel_rfl) (by kernel_rfl) (fun _ _ _ h => h) (Or.inl ⟨by rfl, ?_⟩) (by assumption) ?_
          rotate_left
          · (intro w hSw; (try dsimp only at hSw); go_simp)
            try with_reducible rfl
          try simp only [Act.put, List.setIfInBounds_toArray, List.set_cons_zero, List.set_cons_succ]
          refine wpAnyF_take (i := 20) (oi := ⟨_, _, _, _, _, _⟩) (v := ?_) rfl (by kernel_rfl) (by kernel_rfl) (by kernel_rfl) (by kernel_rfl) (fun _ _ _ h => h) (Or.inl ⟨by rfl, ?_⟩) (by assumption) ?_
          rotate_left
          · (intro w hSw; (try dsimp only at hSw); go_simp)
            try with_reducible rfl
          try simp only [Act.put, List.setIfInBounds_toArray, List.set_cons_zero, List.set_cons_succ]
          refine wpAnyF_last (i := 21) (o := ⟨_, _, _, _, _, _⟩) (by kernel_rfl) rfl (by kernel_rfl) (by kernel_rfl) (fun K hK => ?_)
          go_simp
          refine hK.out _ _ ?_
          clear hK K g0 g1 g2 g3 gf
          have HR := hid (HGU.out.ref.anew HO18.out HGL.out HV18.out)
          have HFV := hid (show Fr (fun k => k = g) w (U5.setCell ⟨g, 3, none⟩ (.slice A18 n18 c18)) from Fr.setCell (S := fun k => k = g) (HGU.out.fr.mono (fun k _ h => absurd h (not_no k))) (p := ⟨g, 3, none⟩) (fun _ => rfl) _)
          have p3 := HGU.out.box.far (p := ⟨g, 3, none⟩) (by have h1 := HXE.out; have h2 := HRE.out; have h3 := HGL.out; show xb ≠ g; omega) (.slice A18 n18 c18)
          have p2 := HGU.out.res.far (p := ⟨g, 3, none⟩) (by have h2 := HRE.out; have h3 := HGL.out; show rb ≠ g; omega) (.slice A18 n18 c18)
          generalize U5.setCell ⟨g, 3, none⟩ (.slice A18 n18 c18) = V2 at HR HFV p2 p3 ⊢
          have z0 := p2.cell 0
          have z1 := p2.cell 1
          have z2 := p2.cell 2
          have z3 := p2.cell 3
          have z4 := p2.cell 4
          have zf := p2.frozen
          have x0 : V2.cell? ⟨xb, 0, none⟩ = some (.int .i64 node) := p3.cell 0
          have x1 : V2.cell? ⟨xb, 1, none⟩ = some (.int .i64 version) := p3.cell 1
          have x2 : V2.cell? ⟨xb, 2, none⟩ = some (.int .i64 fn) := p3.cell 2
          have x3 : V2.cell? ⟨xb, 3, none⟩ = some (.int .i64 epoch) := p3.cell 3
          have x4 : V2.cell? ⟨xb, 4, none⟩ = some (.int .i64 (tick + l)) := p3.cell 4
          clear p2 p3
          go_wp2_with fail
          refine ⟨rfl, ?_⟩
          refine ⟨.tuple #[.agg #[.int .i64 node, .int .i64 version, .int .i64 fn, .int .i64 epoch, .int .i64 (tick + l)], .int .i64 0], ?_, ?_⟩
          · have hres : Try.f20.results = #[.cell 12 30, .tmp 13] := rfl
            simp [results, hres, asAddr]
            try go_simp
            try rfl
          · exact ⟨0, htl, HB.out, .inr ⟨fun y hy => (by cases hy), rfl, _, HR.out.far (by with_reducible repeat (first | exact Fr.refl _ _ | refine Fr.setCell (S := fun k => k = rb) ?_ (fun _ => rfl) _ | refine Fr.drew ?_)) (by have h1 := HGL.out; have h2 := HRE.out; omega) (fun k hk e => by have h1 := HW18.out k hk; have h2 := HRL.out; omega), (Fr.box (rb := rb) HFV.out (by with_reducible repeat (first | exact Fr.refl _ _ | refine Fr.setCell (S := fun k => k = rb) ?_ (fun _ => rfl) _ | refine Fr.drew ?_)) (by have := HRE.out; omega)).mono (fun k _ hk => .inl hk), fun k hk => .inr (HV18.out k hk)⟩⟩
        go_simp
        have HU1 := hid (show Fr No wM (wM.alloc (.cells #[] 30)).drew from ((Fr.refl No wM).alloc _).drew)
        have HE := hid (show Own 30 5 (wM.alloc (.cells #[] 30)).drew (.slice (some ⟨wM.heap.size, 0, none⟩) 0 0) 0 [] from Own.keep (Own.new wM 30 #[] 0 0 [] (by unfold maxLen; omega) (Nat.le_refl _) (by simp) (by simp)) ((Fr.refl No _).drew) (fun x _ => not_no x))
        generalize he0 : wM.heap.size = e0 at HE ⊢
        have HEB := hid (show wM.heap.size ≤ e0 from Nat.le_trans (Fr.refl No wM).size (Nat.le_of_eq he0))
        clear he0
        generalize (wM.alloc (.cells #[] 30)).drew = U1 at HU1 HE  ⊢
        refine hK.out _ _ ?_ (fun hHeld => ?_)
        · (try dsimp only)
          first | assumption | exact KS.out _ HU1.out
        clear hK K
        try simp only [Act.put, List.setIfInBounds_toArray, List.set_cons_zero, List.set_cons_succ]
        refine wpAnyF_ready (rs := [8, 10]) (by kernel_rfl) (by simp) ?_
        refine AllReadyF.cons (o := ⟨_, _, _, _, _, _⟩) rfl (fun K hK => ?_) ?_
        rotate_left
        · refine AllReadyF.cons (o := ⟨_, _, _, _, _, _⟩) rfl (fun K hK => ?_) AllReadyF.nil
          go_simp
          have HU2 := hid (show Fr No wM (U1.alloc (.cells #[.int .i64 node, .int .i64 version, .int .i64 fn, .int .i64 epoch, .int .i64 (tick + l)] 30)) from (HU1.out.alloc _))
          have HX2 := hid (show Rd 5 (U1.alloc (.cells #[.int .i64 node, .int .i64 version, .int .i64 fn, .int .i64 epoch, .int .i64 (tick + l)] 30)) (.slice (some ⟨U1.heap.size, 0, none⟩) 1 1) 1 (Ls.mk node version fn epoch (tick + l)).cells.toList from Rd.keep (Rd.lease U1 (Ls.mk node version fn epoch (tick + l))) (Fr.refl No _) (fun x _ => not_no x))
          have HXB := hid (show U1.heap.size < (U1.alloc (.cells #[.int .i64 node, .int .i64 version, .int .i64 fn, .int .i64 epoch, .int .i64 (tick + l)] 30)).heap.size by simp)
          have HNE := hid (show U1.heap.size ≠ e0 by have := Own.lt HE.out e0 (Of_some.2 rfl); omega)
          have HE := hid (Own.keep HE.out ((Fr.refl No U1).alloc (.cells #[.int .i64 node, .int .i64 version, .int .i64 fn, .int .i64 epoch, .int .i64 (tick + l)] 30)) (fun x _ => not_no x))
          generalize U1.heap.size = x0 at HX2 HXB HNE ⊢
          generalize (U1.alloc (.cells #[.int .i64 node, .int .i64 version, .int .i64 fn, .int .i64 epoch, .int .i64 (tick + l)] 30)) = U2 at HU2 HX2 HXB HE ⊢
          refine hK.out _ _ ?_ (fun hHeld => ?_)
          · (try dsimp only)
            first | assumption | exact KS.out _ HU2.out
          clear hK K
          try simp only [Act.put, List.setIfInBounds_toArray, List.set_cons_zero, List.set_cons_succ]
          refine wpAnyF_ready (rs := [8]) (by kernel_rfl) (by simp) ?_
          refine AllReadyF.cons (o := ⟨_, _, _, _, _, _⟩) rfl (fun K hK => ?_) AllReadyF.nil
          refine step_app _ rfl (.tmp 124) (.tmp 130) 38 rfl 30 zeroL 5 40 Try.underlying38 infoL rfl (.slice (some ⟨e0, 0, none⟩) 0 0) 0 [] (by simp [Act.eval, Act.put]) HE.out (.slice none 0 0) 0 [] (by simp [Act.eval, Act.put]) (HRT.out _ HU2.out) (by first | exact lcells_one _ | exact lc_one _ | simp) (by have h1 := HYL.out; have h2 := HTL.out; unfold maxLen; omega) (by have h1 := HYL.out; have h2 := HTL.out; omega) ?_
          intro v8 U3 O8 F8 G8
          have HO8 := hid (show Own 30 5 U3 v8 (0 + 0) ([] ++ []) from O8)
          have HV8 := hid (show ∀ k, Of v8 k → wM.heap.size ≤ k from fun k hk => (G8 k hk).elim (fun h => by have h2 := HEB.out; have h3 : k = e0 := (by first | exact Of_some.1 h | exact (Of_some.1 h).symm); omega) (fun e => by rw [e]; exact HU2.out.size))
          have HU3 := hid (show Fr No wM U3 from HU2.out.fresh F8 (fun k hk => by have h2 := HEB.out; have h3 : k = e0 := (by first | exact Of_some.1 hk | exact (Of_some.1 hk).symm); omega))
          have HN8 := hid (show ∀ k, Of v8 k → x0 ≠ k from fun k hk => (G8 k hk).elim (fun h => by have h2 := HNE.out; have h3 : k = e0 := (by first | exact Of_some.1 h | exact (Of_some.1 h).symm); omega) (fun e => by have := HXB.out; omega))
          have HX2 := hid (Rd.keep HX2.out F8 (fun k hk h => by have h1 : k = e0 := (by first | exact Of_some.1 h | exact (Of_some.1 h).symm); have h4 : k = x0 := (by first | exact Of_some.1 hk | exact (Of_some.1 hk).symm); have := HNE.out; omega))
          clear O8 F8 G8 HE
          refine hK.out _ _ ?_ (fun hHeld => ?_)
          · (try dsimp only)
            first | assumption | exact KS.out _ HU3.out
          clear hK K
          try simp only [Act.put, List.setIfInBounds_toArray, List.set_cons_zero, List.set_cons_succ]
          refine wpAnyF_ready (rs := [11]) (by kernel_rfl) (by simp) ?_
          refine AllReadyF.cons (o := ⟨_, _, _, _, _, _⟩) rfl (fun K hK => ?_) AllReadyF.nil
          refine step_app _ rfl (.tmp 131) (.tmp 133) 38 rfl 30 zeroL 5 40 Try.underlying38 infoL rfl v8 (0 + 0) ([] ++ []) (by simp [Act.eval, Act.put]) HO8.out (.slice (some ⟨x0, 0, none⟩) 1 1) 1 (Ls.mk node version fn epoch (tick + l)).cells.toList (by simp [Act.eval, Act.put]) HX2.out (by first | exact lcells_one _ | exact lc_one _ | simp) (by have h1 := HYL.out; have h2 := HTL.out; unfold maxLen; omega) (by have h1 := HYL.out; have h2 := HTL.out; omega) ?_
          intro v11 U4 O11 F11 G11
          have HO11 := hid O11
          have HV11 := hid (show ∀ k, Of v11 k → wM.heap.size ≤ k from fun k hk => (G11 k hk).elim (HV8.out k) (fun e => by rw [e]; exact HU3.out.size))
          have HU4 := hid (HU3.out.fresh F11 HV8.out)
          clear O11 F11 G11 HO8 HX2
          refine hK.out _ _ ?_ (fun hHeld => ?_)
          · (try dsimp only)
            first | assumption | exact KS.out _ HU4.out
          clear hK K
          try simp only [Act.put, List.setIfInBounds_toArray, List.set_cons_zero, List.set_cons_succ]
          refine wpAnyF_ready (rs := [18]) (by kernel_rfl) (by simp) ?_
          refine AllReadyF.cons (o := ⟨_, _, _, _, _, _⟩) rfl (fun K hK => ?_) AllReadyF.nil
          refine step_app _ rfl (.tmp 134) (.tmp 140) 38 rfl 30 zeroL 5 40 Try.underlying38 infoL rfl v11 (0 + 0 + 1) ([] ++ [] ++ (Ls.mk node version fn epoch (tick + l)).cells.toList) (by simp [Act.eval, Act.put]) HO11.out (.slice none 0 0) 0 [] (by simp [Act.eval, Act.put]) (HRD.out _ HU4.out) (by first | exact lcells_one _ | exact lc_one _ | simp) (by have h1 := HYL.out; have h2 := HTL.out; unfold maxLen; omega) (by have h1 := HYL.out; have h2 := HTL.out; omega) ?_
          intro v18 U5 O18 F18 G18
          have HW18 := hid (show ∀ k, Of v18 k → wM.heap.size ≤ k from fun k hk => (G18 k hk).elim (HV11.out k) (fun e => by rw [e]; exact HU4.out.size))
          have HV18 := hid (show ∀ k, Of v18 k → w.heap.size ≤ k from fun k hk => Nat.le_trans HGM.out.fr.size (HW18.out k hk))
          have HRL := hid HGM.out.res.lt
          have HU5 := hid (HU4.out.fresh F18 HV11.out)
          have HO18 := hid (show Own 30 5 U5 v18 ([(Ls.mk node version fn epoch (tick + l))] : List Ls).length (lcells [(Ls.mk node version fn epoch (tick + l))]) from O18)
          obtain ⟨A18, n18, c18, rfl⟩ : ∃ A n c, v18 = .slice A n c := by
            obtain ⟨A, c, h, _⟩ := HO18.out.slice
            exact ⟨_, _, _, h⟩
          have HGU := hid (HGM.out.keep HU5.out)
          clear O18 F18 G18 HO11
          refine hK.out _ _ ?_ (fun hHeld => ?_)
          · (try dsimp only)
            first | assumption | exact KS.out _ HU5.out
          clear hK K
          try simp only [Act.put, List.setIfInBounds_toArray, List.set_cons_zero, List.set_cons_succ]
          obtain ⟨g0, g1, g2, g3, gf⟩ := HGU.out.ref.blk.four
          clear KS HRT HRD
          refine wpAnyF_take (i := 19) (oi := ⟨_, _, _, _, _, _⟩) (v := ?_) rfl (by kernel_rfl) (by kernel_rfl) (by kernel_rfl) (by kernel_rfl) (fun _ _ _ h => h) (Or.inl ⟨by rfl, ?_⟩) (by assumption) ?_
          rotate_left
          · (intro w hSw; (try dsimp only at hSw); go_simp)
            try with_reducible rfl
          try simp only [Act.put, List.setIfInBounds_toArray, List.set_cons_zero, List.set_cons_succ]
          refine wpAnyF_take (i := 20) (oi := ⟨_, _, _, _, _, _⟩) (v := ?_) rfl (by kernel_rfl) (by kernel_rfl) (by kernel_rfl) (by kernel_rfl) (fun _ _ _ h => h) (Or.inl ⟨by rfl, ?_⟩) (by assumption) ?_
          rotate_left
          · (intro w hSw; (try dsimp only at hSw); go_simp)
            try with_reducible rfl
          try simp only [Act.put, List.setIfInBounds_toArray, List.set_cons_zero, List.set_cons_succ]
          refine wpAnyF_last (i := 21) (o := ⟨_, _, _, _, _, _⟩) (by kernel_rfl) rfl (by kernel_rfl) (by kernel_rfl) (fun K hK => ?_)
          go_simp
          refine hK.out _ _ ?_
          clear hK K g0 g1 g2 g3 gf
          have HR := hid (HGU.out.ref.anew HO18.out HGL.out HV18.out)
          have HFV := hid (show Fr (fun k => k = g) w (U5.setCell ⟨g, 3, none⟩ (.slice A18 n18 c18)) from Fr.setCell (S := fun k => k = g) (HGU.out.fr.mono (fun k _ h => absurd h (not_no k))) (p := ⟨g, 3, none⟩) (fun _ => rfl) _)
          have p3 := HGU.out.box.far (p := ⟨g, 3, none⟩) (by have h1 := HXE.out; have h2 := HRE.out; have h3 := HGL.out; show xb ≠ g; omega) (.slice A18 n18 c18)
          have p2 := HGU.out.res.far (p := ⟨g, 3, none⟩) (by have h2 := HRE.out; have h3 := HGL.out; show rb ≠ g; omega) (.slice A18 n18 c18)
          generalize U5.setCell ⟨g, 3, none⟩ (.slice A18 n18 c18) = V2 at HR HFV p2 p3 ⊢
          have z0 := p2.cell 0
          have z1 := p2.cell 1
          have z2 := p2.cell 2
          have z3 := p2.cell 3
          have z4 := p2.cell 4
          have zf := p2.frozen
          have x0 : V2.cell? ⟨xb, 0, none⟩ = some (.int .i64 node) := p3.cell 0
          have x1 : V2.cell? ⟨xb, 1, none⟩ = some (.int .i64 version) := p3.cell 1
          have x2 : V2.cell? ⟨xb, 2, none⟩ = some (.int .i64 fn) := p3.cell 2
          have x3 : V2.cell? ⟨xb, 3, none⟩ = some (.int .i64 epoch) := p3.cell 3
          have x4 : V2.cell? ⟨xb, 4, none⟩ = some (.int .i64 (tick + l)) := p3.cell 4
          clear p2 p3
          go_wp2_with fail
          refine ⟨rfl, ?_⟩
          refine ⟨.tuple #[.agg #[.int .i64 node, .int .i64 version, .int .i64 fn, .int .i64 epoch, .int .i64 (tick + l)], .int .i64 0], ?_, ?_⟩
          · have hres : Try.f20.results = #[.cell 12 30, .tmp 13] := rfl
            simp [results, hres, asAddr]
            try go_simp
            try rfl
          · exact ⟨0, htl, HB.out, .inr ⟨fun y hy => (by cases hy), rfl, _, HR.out.far (by with_reducible repeat (first | exact Fr.refl _ _ | refine Fr.setCell (S := fun k => k = rb) ?_ (fun _ => rfl) _ | refine Fr.drew ?_)) (by have h1 := HGL.out; have h2 := HRE.out; omega) (fun k hk e => by have h1 := HW18.out k hk; have h2 := HRL.out; omega), (Fr.box (rb := rb) HFV.out (by with_reducible repeat (first | exact Fr.refl _ _ | refine Fr.setCell (S := fun k => k = rb) ?_ (fun _ => rfl) _ | refine Fr.drew ?_)) (by have := HRE.out; omega)).mono (fun k _ hk => .inl hk), fun k hk => .inr (HV18.out k hk)⟩⟩
        refine step_app _ rfl (.tmp 124) (.tmp 130) 38 rfl 30 zeroL 5 40 Try.underlying38 infoL rfl (.slice (some ⟨e0, 0, none⟩) 0 0) 0 [] (by simp [Act.eval, Act.put]) HE.out (.slice none 0 0) 0 [] (by simp [Act.eval, Act.put]) (HRT.out _ HU1.out) (by first | exact lcells_one _ | exact lc_one _ | simp) (by have h1 := HYL.out; have h2 := HTL.out; unfold maxLen; omega) (by have h1 := HYL.out; have h2 := HTL.out; omega) ?_
        intro v8 U2 O8 F8 G8
        have HO8 := hid (show Own 30 5 U2 v8 (0 + 0) ([] ++ []) from O8)
        have HV8 := hid (show ∀ k, Of v8 k → wM.heap.size ≤ k from fun k hk => (G8 k hk).elim (fun h => by have h2 := HEB.out; have h3 : k = e0 := (by first | exact Of_some.1 h | exact (Of_some.1 h).symm); omega) (fun e => by rw [e]; exact HU1.out.size))
        have HU2 := hid (show Fr No wM U2 from HU1.out.fresh F8 (fun k hk => by have h2 := HEB.out; have h3 : k = e0 := (by first | exact Of_some.1 hk | exact (Of_some.1 hk).symm); omega))
        clear O8 F8 G8 HE
        refine hK.out _ _ ?_ (fun hHeld => ?_)
        · (try dsimp only)
          first | assumption | exact KS.out _ HU2.out
        clear hK K
        try simp only [Act.put, List.setIfInBounds_toArray, List.set_cons_zero, List.set_cons_succ]
        refine wpAnyF_ready (rs := [10]) (by kernel_rfl) (by simp) ?_
        refine AllReadyF.cons (o := ⟨_, _, _, _, _, _⟩) rfl (fun K hK => ?_) AllReadyF.nil
        go_simp
        have HU3 := hid (show Fr No wM (U2.alloc (.cells #[.int .i64 node, .int .i64 version, .int .i64 fn, .int .i64 epoch, .int .i64 (tick + l)] 30)) from (HU2.out.alloc _))
        have HX2 := hid (show Rd 5 (U2.alloc (.cells #[.int .i64 node, .int .i64 version, .int .i64 fn, .int .i64 epoch, .int .i64 (tick + l)] 30)) (.slice (some ⟨U2.heap.size, 0, none⟩) 1 1) 1 (Ls.mk node version fn epoch (tick + l)).cells.toList from Rd.keep (Rd.lease U2 (Ls.mk node version fn epoch (tick + l))) (Fr.refl No _) (fun x _ => not_no x))
        have HXB := hid (show U2.heap.size < (U2.alloc (.cells #[.int .i64 node, .int .i64 version, .int .i64 fn, .int .i64 epoch, .int .i64 (tick + l)] 30)).heap.size by simp)
        have HN8 := hid (show ∀ k, Of v8 k → U2.heap.size ≠ k from fun k hk => by have := Own.lt HO8.out k hk; omega)
        have HO8 := hid (Own.keep HO8.out ((Fr.refl No U2).alloc (.cells #[.int .i64 node, .int .i64 version, .int .i64 fn, .int .i64 epoch, .int .i64 (tick + l)] 30)) (fun x _ => not_no x))
        generalize U2.heap.size = x0 at HX2 HXB HN8 ⊢
        generalize (U2.alloc (.cells #[.int .i64 node, .int .i64 version, .int .i64 fn, .int .i64 epoch, .int .i64 (tick + l)] 30)) = U3 at HU3 HX2 HXB HO8 ⊢
        refine hK.out _ _ ?_ (fun hHeld => ?_)
        · (try dsimp only)
          first | assumption | exact KS.out _ HU3.out
        clear hK K
        try simp only [Act.put, List.setIfInBounds_toArray, List.set_cons_zero, List.set_cons_succ]
        refine wpAnyF_ready (rs := [11]) (by kernel_rfl) (by simp) ?_
        refine AllReadyF.cons (o := ⟨_, _, _, _, _, _⟩) rfl (fun K hK => ?_) AllReadyF.nil
        refine step_app _ rfl (.tmp 131) (.tmp 133) 38 rfl 30 zeroL 5 40 Try.underlying38 infoL rfl v8 (0 + 0) ([] ++ []) (by simp [Act.eval, Act.put]) HO8.out (.slice (some ⟨x0, 0, none⟩) 1 1) 1 (Ls.mk node version fn epoch (tick + l)).cells.toList (by simp [Act.eval, Act.put]) HX2.out (by first | exact lcells_one _ | exact lc_one _ | simp) (by have h1 := HYL.out; have h2 := HTL.out; unfold maxLen; omega) (by have h1 := HYL.out; have h2 := HTL.out; omega) ?_
        intro v11 U4 O11 F11 G11
        have HO11 := hid O11
        have HV11 := hid (show ∀ k, Of v11 k → wM.heap.size ≤ k from fun k hk => (G11 k hk).elim (HV8.out k) (fun e => by rw [e]; exact HU3.out.size))
        have HU4 := hid (HU3.out.fresh F11 HV8.out)
        clear O11 F11 G11 HO8 HX2
        refine hK.out _ _ ?_ (fun hHeld => ?_)
        · (try dsimp only)
          first | assumption | exact KS.out _ HU4.out
        clear hK K
        try simp only [Act.put, List.setIfInBounds_toArray, List.set_cons_zero, List.set_cons_succ]
        refine wpAnyF_ready (rs := [18]) (by kernel_rfl) (by simp) ?_
        refine AllReadyF.cons (o := ⟨_, _, _, _, _, _⟩) rfl (fun K hK => ?_) AllReadyF.nil
        refine step_app _ rfl (.tmp 134) (.tmp 140) 38 rfl 30 zeroL 5 40 Try.underlying38 infoL rfl v11 (0 + 0 + 1) ([] ++ [] ++ (Ls.mk node version fn epoch (tick + l)).cells.toList) (by simp [Act.eval, Act.put]) HO11.out (.slice none 0 0) 0 [] (by simp [Act.eval, Act.put]) (HRD.out _ HU4.out) (by first | exact lcells_one _ | exact lc_one _ | simp) (by have h1 := HYL.out; have h2 := HTL.out; unfold maxLen; omega) (by have h1 := HYL.out; have h2 := HTL.out; omega) ?_
        intro v18 U5 O18 F18 G18
        have HW18 := hid (show ∀ k, Of v18 k → wM.heap.size ≤ k from fun k hk => (G18 k hk).elim (HV11.out k) (fun e => by rw [e]; exact HU4.out.size))
        have HV18 := hid (show ∀ k, Of v18 k → w.heap.size ≤ k from fun k hk => Nat.le_trans HGM.out.fr.size (HW18.out k hk))
        have HRL := hid HGM.out.res.lt
        have HU5 := hid (HU4.out.fresh F18 HV11.out)
        have HO18 := hid (show Own 30 5 U5 v18 ([(Ls.mk node version fn epoch (tick + l))] : List Ls).length (lcells [(Ls.mk node version fn epoch (tick + l))]) from O18)
        obtain ⟨A18, n18, c18, rfl⟩ : ∃ A n c, v18 = .slice A n c := by
          obtain ⟨A, c, h, _⟩ := HO18.out.slice
          exact ⟨_, _, _, h⟩
        have HGU := hid (HGM.out.keep HU5.out)
        clear O18 F18 G18 HO11
        refine hK.out _ _ ?_ (fun hHeld => ?_)
        · (try dsimp only)
          first | assumption | exact KS.out _ HU5.out
        clear hK K
        try simp only [Act.put, List.setIfInBounds_toArray, List.set_cons_zero, List.set_cons_succ]
        obtain ⟨g0, g1, g2, g3, gf⟩ := HGU.out.ref.blk.four
        clear KS HRT HRD
        refine wpAnyF_take (i := 19) (oi := ⟨_, _, _, _, _, _⟩) (v := ?_) rfl (by kernel_rfl) (by kernel_rfl) (by kernel_rfl) (by kernel_rfl) (fun _ _ _ h => h) (Or.inl ⟨by rfl, ?_⟩) (by assumption) ?_
        rotate_left
        · (intro w hSw; (try dsimp only at hSw); go_simp)
          try with_reducible rfl
        try simp only [Act.put, List.setIfInBounds_toArray, List.set_cons_zero, List.set_cons_succ]
        refine wpAnyF_take (i := 20) (oi := ⟨_, _, _, _, _, _⟩) (v := ?_) rfl (by kernel_rfl) (by kernel_rfl) (by kernel_rfl) (by kernel_rfl) (fun _ _ _ h => h) (Or.inl ⟨by rfl, ?_⟩) (by assumption) ?_
        rotate_left
        · (intro w hSw; (try dsimp only at hSw); go_simp)
          try with_reducible rfl
        try simp only [Act.put, List.setIfInBounds_toArray, List.set_cons_zero, List.set_cons_succ]
        refine wpAnyF_last (i := 21) (o := ⟨_, _, _, _, _, _⟩) (by kernel_rfl) rfl (by kernel_rfl) (by kernel_rfl) (fun K hK => ?_)
        go_simp
        refine hK.out _ _ ?_
        clear hK K g0 g1 g2 g3 gf
        have HR := hid (HGU.out.ref.anew HO18.out HGL.out HV18.out)
        have HFV := hid (show Fr (fun k => k = g) w (U5.setCell ⟨g, 3, none⟩ (.slice A18 n18 c18)) from Fr.setCell (S := fun k => k = g) (HGU.out.fr.mono (fun k _ h => absurd h (not_no k))) (p := ⟨g, 3, none⟩) (fun _ => rfl) _)
        have p3 := HGU.out.box.far (p := ⟨g, 3, none⟩) (by have h1 := HXE.out; have h2 := HRE.out; have h3 := HGL.out; show xb ≠ g; omega) (.slice A18 n18 c18)
        have p2 := HGU.out.res.far (p := ⟨g, 3, none⟩) (by have h2 := HRE.out; have h3 := HGL.out; show rb ≠ g; omega) (.slice A18 n18 c18)
        generalize U5.setCell ⟨g, 3, none⟩ (.slice A18 n18 c18) = V2 at HR HFV p2 p3 ⊢
        have z0 := p2.cell 0
        have z1 := p2.cell 1
        have z2 := p2.cell 2
        have z3 := p2.cell 3
        have z4 := p2.cell 4
        have zf := p2.frozen
        have x0 : V2.cell? ⟨xb, 0, none⟩ = some (.int .i64 node) := p3.cell 0
        have x1 : V2.cell? ⟨xb, 1, none⟩ = some (.int .i64 version) := p3.cell 1
        have x2 : V2.cell? ⟨xb, 2, none⟩ = some (.int .i64 fn) := p3.cell 2
        have x3 : V2.cell? ⟨xb, 3, none⟩ = some (.int .i64 epoch) := p3.cell 3
        have x4 : V2.cell? ⟨xb, 4, none⟩ = some (.int .i64 (tick + l)) := p3.cell 4
        clear p2 p3
        go_wp2_with fail
        refine ⟨rfl, ?_⟩
        refine ⟨.tuple #[.agg #[.int .i64 node, .int .i64 version, .int .i64 fn, .int .i64 epoch, .int .i64 (tick + l)], .int .i64 0], ?_, ?_⟩
        · have hres : Try.f20.results = #[.cell 12 30, .tmp 13] := rfl
          simp [results, hres, asAddr]
          try go_simp
          try rfl
        · exact ⟨0, htl, HB.out, .inr ⟨fun y hy => (by cases hy), rfl, _, HR.out.far (by with_reducible repeat (first | exact Fr.refl _ _ | refine Fr.setCell (S := fun k => k = rb) ?_ (fun _ => rfl) _ | refine Fr.drew ?_)) (by have h1 := HGL.out; have h2 := HRE.out; omega) (fun k hk e => by have h1 := HW18.out k hk; have h2 := HRL.out; omega), (Fr.box (rb := rb) HFV.out (by with_reducible repeat (first | exact Fr.refl _ _ | refine Fr.setCell (S := fun k => k = rb) ?_ (fun _ => rfl) _ | refine Fr.drew ?_)) (by have := HRE.out; omega)).mono (fun k _ hk => .inl hk), fun k hk => .inr (HV18.out k hk)⟩⟩
      · injection hv0 with e1 e2 e3
        subst e1 e3
        clear e2
        have KS := hid (show ∀ w', Fr No wM w' → w'.cell? ⟨g, 3, none⟩ = some (.slice (some ⟨gA, 0, none⟩) ys.length c) ∧ w'.cell? ⟨xb, 0, none⟩ = some (.int .i64 node) ∧ w'.cell? ⟨xb, 1, none⟩ = some (.int .i64 version) ∧ w'.cell? ⟨xb, 2, none⟩ = some (.int .i64 fn) ∧ w'.cell? ⟨xb, 3, none⟩ = some (.int .i64 epoch) ∧ w'.cell? ⟨xb, 4, none⟩ = some (.int .i64 (tick + l)) from fun w' hf => by
          have q := HGM.out.keep hf
          obtain ⟨_, _, _, e3, _⟩ := q.ref.blk.four
          exact ⟨e3, q.box.cell 0, q.box.cell 1, q.box.cell 2, q.box.cell 3, q.box.cell 4⟩)
        have HRT := hid (show ∀ w', Fr No wM w' → Rd 5 w' (.slice (some ⟨gA, 0, none⟩) t c) t (lcells (ys.take t)) from fun w' hf => rd_take (HGM.out.keep hf).ref.own htl (by omega))
        have HRD := hid (show ∀ w', Fr No wM w' → Rd 5 w' (.slice (if c = t then some ⟨gA, 0, none⟩ else some ⟨gA, t * 5, none⟩) (ys.length - t) (c - t)) (ys.length - t) (lcells (ys.drop t)) from fun w' hf => rd_drop (HGM.out.keep hf).ref.own htl hc)
        have d5 : ¬ (c : Int) < t := by omega
        have d6 : (t : Int) ≤ c := by omega
        have d7 : (t : Int) ≤ ys.length := by omega
        have HTL := hid htl
        have HYL := hid hl
        go_upto_region 15 with fail
        refine wp_region_F (S := (fun w' => w'.cell? ⟨g, 3, none⟩ = some (.slice (some ⟨gA, 0, none⟩) ys.length c) ∧ w'.cell? ⟨xb, 0, none⟩ = some (.int .i64 node) ∧ w'.cell? ⟨xb, 1, none⟩ = some (.int .i64 version) ∧ w'.cell? ⟨xb, 2, none⟩ = some (.int .i64 fn) ∧ w'.cell? ⟨xb, 3, none⟩ = some (.int .i64 epoch) ∧ w'.cell? ⟨xb, 4, none⟩ = some (.int .i64 (tick + l)))) (by kernel_rfl) ?_ (fun hHeld => ?_)
        · (try dsimp only)
          (refine KS.out _ ?_; with_reducible first | exact (Fr.refl _ wM).drew | exact Fr.refl _ wM)
        refine wpAnyF_take (i := 0) (oi := ⟨_, _, _, _, _, _⟩) (v := ?_) rfl (by kernel_rfl) (by kernel_rfl) (by kernel_rfl) (by kernel_rfl) (fun _ _ _ h => h) (Or.inl ⟨by rfl, ?_⟩) (by assumption) ?_
        rotate_left
        · (intro w hSw; (try dsimp only at hSw); go_simp)
          try with_reducible rfl
        try simp only [Act.put, List.setIfInBounds_toArray, List.set_cons_zero, List.set_cons_succ]
        refine wpAnyF_take (i := 2) (oi := ⟨_, _, _, _, _, _⟩) (v := ?_) rfl (by kernel_rfl) (by kernel_rfl) (by kernel_rfl) (by kernel_rfl) (fun _ _ _ h => h) (Or.inl ⟨by rfl, ?_⟩) (by assumption) ?_
        rotate_left
        · (intro w hSw; (try dsimp only at hSw); go_simp)
          try with_reducible rfl
        try simp only [Act.put, List.setIfInBounds_toArray, List.set_cons_zero, List.set_cons_succ]
        refine wpAnyF_take (i := 3) (oi := ⟨_, _, _, _, _, _⟩) (v := ?_) rfl (by kernel_rfl) (by kernel_rfl) (by kernel_rfl) (by kernel_rfl) (fun _ _ _ h => h) (Or.inl ⟨by rfl, ?_⟩) (by assumption) ?_
        rotate_left
        · (intro w hSw; (try dsimp only at hSw); go_simp)
          try with_reducible rfl
        try simp only [Act.put, List.setIfInBounds_toArray, List.set_cons_zero, List.set_cons_succ]
        refine wpAnyF_take (i := 4) (oi := ⟨_, _, _, _, _, _⟩) (v := ?_) rfl (by kernel_rfl) (by kernel_rfl) (by kernel_rfl) (by kernel_rfl) (fun _ _ _ h => h) (Or.inl ⟨by rfl, ?_⟩) (by assumption) ?_
        rotate_left
        · (intro w hSw; (try dsimp only at hSw); go_simp)
          try with_reducible rfl
        try simp only [Act.put, List.setIfInBounds_toArray, List.set_cons_zero, List.set_cons_succ]
        refine wpAnyF_take (i := 5) (oi := ⟨_, _, _, _, _, _⟩) (v := ?_) rfl (by kernel_rfl) (by kernel_rfl) (by kernel_rfl) (by kernel_rfl) (fun _ _ _ h => h) (Or.inl ⟨by rfl, ?_⟩) (by assumption) ?_
        rotate_left
        · (intro w hSw; (try dsimp only at hSw); go_simp)
          try with_reducible rfl
        try simp only [Act.put, List.setIfInBounds_toArray, List.set_cons_zero, List.set_cons_succ]
        refine wpAnyF_take (i := 6) (oi := ⟨_, _, _, _, _, _⟩) (v := ?_) rfl (by kernel_rfl) (by kernel_rfl) (by kernel_rfl) (by kernel_rfl) (fun _ _ _ h => h) (Or.inl ⟨by rfl, ?_⟩) (by assumption) ?_
        rotate_left
        · (intro w hSw; (try dsimp only at hSw); go_simp)
          try with_reducible rfl
        try simp only [Act.put, List.setIfInBounds_toArray, List.set_cons_zero, List.set_cons_succ]
        refine wpAnyF_take (i := 7) (oi := ⟨_, _, _, _, _, _⟩) (v := ?_) rfl (by kernel_rfl) (by kernel_rfl) (by kernel_rfl) (by kernel_rfl) (fun _ _ _ h => h) (Or.inl ⟨by rfl, ?_⟩) (by assumption) ?_
        rotate_left
        · (intro w hSw; (try dsimp only at hSw); go_simp)
          try with_reducible rfl
        try simp only [Act.put, List.setIfInBounds_toArray, List.set_cons_zero, List.set_cons_succ]
        refine wpAnyF_take (i := 9) (oi := ⟨_, _, _, _, _, _⟩) (v := ?_) rfl (by kernel_rfl) (by kernel_rfl) (by kernel_rfl) (by kernel_rfl) (fun _ _ _ h => h) (Or.inl ⟨by rfl, ?_⟩) (by assumption) ?_
        rotate_left
        · (intro w hSw; (try dsimp only at hSw); go_simp)
          try with_reducible rfl
        try simp only [Act.put, List.setIfInBounds_toArray, List.set_cons_zero, List.set_cons_succ]
        refine wpAnyF_take (i := 12) (oi := ⟨_, _, _, _, _, _⟩) (v := ?_) rfl (by kernel_rfl) (by kernel_rfl) (by kernel_rfl) (by kernel_rfl) (fun _ _ _ h => h) (Or.inl ⟨by rfl, ?_⟩) (by assumption) ?_
        rotate_left
        · (intro w hSw; (try dsimp only at hSw); go_simp)
          try with_reducible rfl
        try simp only [Act.put, List.setIfInBounds_toArray, List.set_cons_zero, List.set_cons_succ]
        refine wpAnyF_take (i := 13) (oi := ⟨_, _, _, _, _, _⟩) (v := ?_) rfl (by kernel_rfl) (by kernel_rfl) (by kernel_rfl) (by kernel_rfl) (fun _ _ _ h => h) (Or.inl ⟨by rfl, ?_⟩) (by assumption) ?_
        rotate_left
        · (intro w hSw; (try dsimp only at hSw); go_simp)
          try with_reducible rfl
        try simp only [Act.put, List.setIfInBounds_toArray, List.set_cons_zero, List.set_cons_succ]
        refine wpAnyF_take (i := 14) (oi := ⟨_, _, _, _, _, _⟩) (v := ?_) rfl (by kernel_rfl) (by kernel_rfl) (by kernel_rfl) (by kernel_rfl) (fun _ _ _ h => h) (Or.inl ⟨by rfl, ?_⟩) (by assumption) ?_
        rotate_left
        · (intro w hSw; (try dsimp only at hSw); go_simp)
          try with_reducible rfl
        try simp only [Act.put, List.setIfInBounds_toArray, List.set_cons_zero, List.set_cons_succ]
        refine wpAnyF_take (i := 15) (oi := ⟨_, _, _, _, _, _⟩) (v := ?_) rfl (by kernel_rfl) (by kernel_rfl) (by kernel_rfl) (by kernel_rfl) (fun _ _ _ h => h) (Or.inl ⟨by rfl, ?_⟩) (by assumption) ?_
        rotate_left
        · (intro w hSw; (try dsimp only at hSw); go_simp)
          try with_reducible rfl
        try simp only [Act.put, List.setIfInBounds_toArray, List.set_cons_zero, List.set_cons_succ]
        refine wpAnyF_take (i := 16) (oi := ⟨_, _, _, _, _, _⟩) (v := ?_) rfl (by kernel_rfl) (by kernel_rfl) (by kernel_rfl) (by kernel_rfl) (fun _ _ _ h => h) (Or.inl ⟨by rfl, ?_⟩) (by assumption) ?_
        rotate_left
        · (intro w hSw; (try dsimp only at hSw); go_simp)
          try with_reducible rfl
        try simp only [Act.put, List.setIfInBounds_toArray, List.set_cons_zero, List.set_cons_succ]
        refine wpAnyF_take (i := 17) (oi := ⟨_, _, _, _, _, _⟩) (v := ?_) rfl (by kernel_rfl) (by kernel_rfl) (by kernel_rfl) (by kernel_rfl) (fun _ _ _ h => h) (Or.inl ⟨by rfl, ?_⟩) (by assumption) ?_
        rotate_left
        · (intro w hSw; (try dsimp only at hSw); go_simp)
          try with_reducible rfl
        try simp only [Act.put, List.setIfInBounds_toArray, List.set_cons_zero, List.set_cons_succ]
        generalize (if c = t then (some ⟨gA, 0, none⟩ : Option Addr) else some ⟨gA, t * 5, none⟩) = AD at HRD ⊢
        refine wpAnyF_ready (rs := [1, 10]) (by kernel_rfl) (by simp) ?_
        refine AllReadyF.cons (o := ⟨_, _, _, _, _, _⟩) rfl (fun K hK => ?_) ?_
        rotate_left
        · refine AllReadyF.cons (o := ⟨_, _, _, _, _, _⟩) rfl (fun K hK => ?_) AllReadyF.nil
          go_simp
          have HU1 := hid (show Fr No wM (wM.alloc (.cells #[.int .i64 node, .int .i64 version, .int .i64 fn, .int .i64 epoch, .int .i64 (tick + l)] 30)).drew from ((Fr.refl No wM).alloc _).drew)
          have HX2 := hid (show Rd 5 (wM.alloc (.cells #[.int .i64 node, .int .i64 version, .int .i64 fn, .int .i64 epoch, .int .i64 (tick + l)] 30)).drew (.slice (some ⟨wM.heap.size, 0, none⟩) 1 1) 1 (Ls.mk node version fn epoch (tick + l)).cells.toList from Rd.keep (Rd.lease wM (Ls.mk node version fn epoch (tick + l))) ((Fr.refl No _).drew) (fun x _ => not_no x))
          have HXB := hid (show wM.heap.size < (wM.alloc (.cells #[.int .i64 node, .int .i64 version, .int .i64 fn, .int .i64 epoch, .int .i64 (tick + l)] 30)).drew.heap.size by simp)
          generalize wM.heap.size = x0 at HX2 HXB  ⊢
          generalize (wM.alloc (.cells #[.int .i64 node, .int .i64 version, .int .i64 fn, .int .i64 epoch, .int .i64 (tick + l)] 30)).drew = U1 at HU1 HX2 HXB  ⊢
          refine hK.out _ _ ?_ (fun hHeld => ?_)
          · (try dsimp only)
            first | assumption | exact KS.out _ HU1.out
          clear hK K
          try simp only [Act.put, List.setIfInBounds_toArray, List.set_cons_zero, List.set_cons_succ]
          refine wpAnyF_ready (rs := [1]) (by kernel_rfl) (by simp) ?_
          refine AllReadyF.cons (o := ⟨_, _, _, _, _, _⟩) rfl (fun K hK => ?_) AllReadyF.nil
          go_simp
          have HU2 := hid (show Fr No wM (U1.alloc (.cells #[] 30)) from (HU1.out.alloc _))
          have HE := hid (show Own 30 5 (U1.alloc (.cells #[] 30)) (.slice (some ⟨U1.heap.size, 0, none⟩) 0 0) 0 [] from Own.keep (Own.new U1 30 #[] 0 0 [] (by unfold maxLen; omega) (Nat.le_refl _) (by simp) (by simp)) (Fr.refl No _) (fun x _ => not_no x))
          have HX2 := hid (Rd.keep HX2.out ((Fr.refl No U1).alloc (.cells #[] 30)) (fun x _ => not_no x))
          have HNE := hid (show x0 ≠ U1.heap.size by have := HXB.out; omega)
          have HXB := hid (show x0 < (U1.alloc (.cells #[] 30)).heap.size by have := HXB.out; simp; omega)
          generalize he0 : U1.heap.size = e0 at HE HNE ⊢
          have HEB := hid (show wM.heap.size ≤ e0 from Nat.le_trans HU1.out.size (Nat.le_of_eq he0))
          clear he0
          generalize (U1.alloc (.cells #[] 30)) = U2 at HU2 HE HX2 HXB ⊢
          refine hK.out _ _ ?_ (fun hHeld => ?_)
          · (try dsimp only)
            first | assumption | exact KS.out _ HU2.out
          clear hK K
          try simp only [Act.put, List.setIfInBounds_toArray, List.set_cons_zero, List.set_cons_succ]
          refine wpAnyF_ready (rs := [8]) (by kernel_rfl) (by simp) ?_
          refine AllReadyF.cons (o := ⟨_, _, _, _, _, _⟩) rfl (fun K hK => ?_) AllReadyF.nil
          refine step_app _ rfl (.tmp 124) (.tmp 130) 38 rfl 30 zeroL 5 40 Try.underlying38 infoL rfl (.slice (some ⟨e0, 0, none⟩) 0 0) 0 [] (by simp [Act.eval, Act.put]) HE.out (.slice (some ⟨gA, 0, none⟩) t c) t (lcells (ys.take t)) (by simp [Act.eval, Act.put]) (HRT.out _ HU2.out) (by first | exact lcells_one _ | exact lc_one _ | simp) (by have h1 := HYL.out; have h2 := HTL.out; unfold maxLen; omega) (by have h1 := HYL.out; have h2 := HTL.out; omega) ?_
          intro v8 U3 O8 F8 G8
          have HO8 := hid (show Own 30 5 U3 v8 (0 + t) ([] ++ (lcells (ys.take t))) from O8)
          have HV8 := hid (show ∀ k, Of v8 k → wM.heap.size ≤ k from fun k hk => (G8 k hk).elim (fun h => by have h2 := HEB.out; have h3 : k = e0 := (by first | exact Of_some.1 h | exact (Of_some.1 h).symm); omega) (fun e => by rw [e]; exact HU2.out.size))
          have HU3 := hid (show Fr No wM U3 from HU2.out.fresh F8 (fun k hk => by have h2 := HEB.out; have h3 : k = e0 := (by first | exact Of_some.1 hk | exact (Of_some.1 hk).symm); omega))
          have HN8 := hid (show ∀ k, Of v8 k → x0 ≠ k from fun k hk => (G8 k hk).elim (fun h => by have h2 := HNE.out; have h3 : k = e0 := (by first | exact Of_some.1 h | exact (Of_some.1 h).symm); omega) (fun e => by have := HXB.out; omega))
          have HX2 := hid (Rd.keep HX2.out F8 (fun k hk h => by have h1 : k = e0 := (by first | exact Of_some.1 h | exact (Of_some.1 h).symm); have h4 : k = x0 := (by first | exact Of_some.1 hk | exact (Of_some.1 hk).symm); have := HNE.out; omega))
          clear O8 F8 G8 HE
          refine hK.out _ _ ?_ (fun hHeld => ?_)
          · (try dsimp only)
            first | assumption | exact KS.out _ HU3.out
          clear hK K
          try simp only [Act.put, List.setIfInBounds_toArray, List.set_cons_zero, List.set_cons_succ]
          refine wpAnyF_ready (rs := [11]) (by kernel_rfl) (by simp) ?_
          refine AllReadyF.cons (o := ⟨_, _, _, _, _, _⟩) rfl (fun K hK => ?_) AllReadyF.nil
          refine step_app _ rfl (.tmp 131) (.tmp 133) 38 rfl 30 zeroL 5 40 Try.underlying38 infoL rfl v8 (0 + t) ([] ++ (lcells (ys.take t))) (by simp [Act.eval, Act.put]) HO8.out (.slice (some ⟨x0, 0, none⟩) 1 1) 1 (Ls.mk node version fn epoch (tick + l)).cells.toList (by simp [Act.eval, Act.put]) HX2.out (by first | exact lcells_one _ | exact lc_one _ | simp) (by have h1 := HYL.out; have h2 := HTL.out; unfold maxLen; omega) (by have h1 := HYL.out; have h2 := HTL.out; omega) ?_
          intro v11 U4 O11 F11 G11
          have HO11 := hid O11
          have HV11 := hid (show ∀ k, Of v11 k → wM.heap.size ≤ k from fun k hk => (G11 k hk).elim (HV8.out k) (fun e => by rw [e]; exact HU3.out.size))
          have HU4 := hid (HU3.out.fresh F11 HV8.out)
          clear O11 F11 G11 HO8 HX2
          refine hK.out _ _ ?_ (fun hHeld => ?_)
          · (try dsimp only)
            first | assumption | exact KS.out _ HU4.out
          clear hK K
          try simp only [Act.put, List.setIfInBounds_toArray, List.set_cons_zero, List.set_cons_succ]
          refine wpAnyF_ready (rs := [18]) (by kernel_rfl) (by simp) ?_
          refine AllReadyF.cons (o := ⟨_, _, _, _, _, _⟩) rfl (fun K hK => ?_) AllReadyF.nil
          refine step_app _ rfl (.tmp 134) (.tmp 140) 38 rfl 30 zeroL 5 40 Try.underlying38 infoL rfl v11 (0 + t + 1) ([] ++ (lcells (ys.take t)) ++ (Ls.mk node version fn epoch (tick + l)).cells.toList) (by simp [Act.eval, Act.put]) HO11.out (.slice AD (ys.length - t) (c - t)) (ys.length - t) (lcells (ys.drop t)) (by simp [Act.eval, Act.put]) (HRD.out _ HU4.out) (by first | exact lcells_one _ | exact lc_one _ | simp) (by have h1 := HYL.out; have h2 := HTL.out; unfold maxLen; omega) (by have h1 := HYL.out; have h2 := HTL.out; omega) ?_
          intro v18 U5 O18 F18 G18
          have HW18 := hid (show ∀ k, Of v18 k → wM.heap.size ≤ k from fun k hk => (G18 k hk).elim (HV11.out k) (fun e => by rw [e]; exact HU4.out.size))
          have HV18 := hid (show ∀ k, Of v18 k → w.heap.size ≤ k from fun k hk => Nat.le_trans HGM.out.fr.size (HW18.out k hk))
          have HRL := hid HGM.out.res.lt
          have HU5 := hid (HU4.out.fresh F18 HV11.out)
          have HO18 := hid (show Own 30 5 U5 v18 (ys.take t ++ [(Ls.mk node version fn epoch (tick + l))] ++ ys.drop t).length (lcells (ys.take t ++ [(Ls.mk node version fn epoch (tick + l))] ++ ys.drop t)) from by
            have h1 : (ys.take t ++ [(Ls.mk node version fn epoch (tick + l))] ++ ys.drop t).length = 0 + t + 1 + (ys.length - t) := by have := HTL.out; simp; omega
            rw [h1, ← lcells_mid]
            exact O18)
          obtain ⟨A18, n18, c18, rfl⟩ : ∃ A n c, v18 = .slice A n c := by
            obtain ⟨A, c, h, _⟩ := HO18.out.slice
            exact ⟨_, _, _, h⟩
          have HGU := hid (HGM.out.keep HU5.out)
          clear O18 F18 G18 HO11
          refine hK.out _ _ ?_ (fun hHeld => ?_)
          · (try dsimp only)
            first | assumption | exact KS.out _ HU5.out
          clear hK K
          try simp only [Act.put, List.setIfInBounds_toArray, List.set_cons_zero, List.set_cons_succ]
          obtain ⟨g0, g1, g2, g3, gf⟩ := HGU.out.ref.blk.four
          clear KS HRT HRD
          refine wpAnyF_take (i := 19) (oi := ⟨_, _, _, _, _, _⟩) (v := ?_) rfl (by kernel_rfl) (by kernel_rfl) (by kernel_rfl) (by kernel_rfl) (fun _ _ _ h => h) (Or.inl ⟨by rfl, ?_⟩) (by assumption) ?_
          rotate_left
          · (intro w hSw; (try dsimp only at hSw); go_simp)
            try with_reducible rfl
          try simp only [Act.put, List.setIfInBounds_toArray, List.set_cons_zero, List.set_cons_succ]
          refine wpAnyF_take (i := 20) (oi := ⟨_, _, _, _, _, _⟩) (v := ?_) rfl (by kernel_rfl) (by kernel_rfl) (by kernel_rfl) (by kernel_rfl) (fun _ _ _ h => h) (Or.inl ⟨by rfl, ?_⟩) (by assumption) ?_
          rotate_left
          · (intro w hSw; (try dsimp only at hSw); go_simp)
            try with_reducible rfl
          try simp only [Act.put, List.setIfInBounds_toArray, List.set_cons_zero, List.set_cons_succ]
          refine wpAnyF_last (i := 21) (o := ⟨_, _, _, _, _, _⟩) (by kernel_rfl) rfl (by kernel_rfl) (by kernel_rfl) (fun K hK => ?_)
          go_simp
          refine hK.out _ _ ?_
          clear hK K g0 g1 g2 g3 gf
          have HR := hid (HGU.out.ref.anew HO18.out HGL.out HV18.out)
          have HFV := hid (show Fr (fun k => k = g) w (U5.setCell ⟨g, 3, none⟩ (.slice A18 n18 c18)) from Fr.setCell (S := fun k => k = g) (HGU.out.fr.mono (fun k _ h => absurd h (not_no k))) (p := ⟨g, 3, none⟩) (fun _ => rfl) _)
          have p3 := HGU.out.box.far (p := ⟨g, 3, none⟩) (by have h1 := HXE.out; have h2 := HRE.out; have h3 := HGL.out; show xb ≠ g; omega) (.slice A18 n18 c18)
          have p2 := HGU.out.res.far (p := ⟨g, 3, none⟩) (by have h2 := HRE.out; have h3 := HGL.out; show rb ≠ g; omega) (.slice A18 n18 c18)
          generalize U5.setCell ⟨g, 3, none⟩ (.slice A18 n18 c18) = V2 at HR HFV p2 p3 ⊢
          have z0 := p2.cell 0
          have z1 := p2.cell 1
          have z2 := p2.cell 2
          have z3 := p2.cell 3
          have z4 := p2.cell 4
          have zf := p2.frozen
          have x0 : V2.cell? ⟨xb, 0, none⟩ = some (.int .i64 node) := p3.cell 0
          have x1 : V2.cell? ⟨xb, 1, none⟩ = some (.int .i64 version) := p3.cell 1
          have x2 : V2.cell? ⟨xb, 2, none⟩ = some (.int .i64 fn) := p3.cell 2
          have x3 : V2.cell? ⟨xb, 3, none⟩ = some (.int .i64 epoch) := p3.cell 3
          have x4 : V2.cell? ⟨xb, 4, none⟩ = some (.int .i64 (tick + l)) := p3.cell 4
          clear p2 p3
          go_wp2_with fail
          refine ⟨rfl, ?_⟩
          refine ⟨.tuple #[.agg #[.int .i64 node, .int .i64 version, .int .i64 fn, .int .i64 epoch, .int .i64 (tick + l)], .int .i64 0], ?_, ?_⟩
          · have hres : Try.f20.results = #[.cell 12 30, .tmp 13] := rfl
            simp [results, hres, asAddr]
            try go_simp
            try rfl
          · exact ⟨t, htl, HB.out, .inr ⟨fun y hy => (by rw [List.getElem?_eq_none (by omega)] at hy; cases hy), rfl, _, HR.out.far (by with_reducible repeat (first | exact Fr.refl _ _ | refine Fr.setCell (S := fun k => k = rb) ?_ (fun _ => rfl) _ | refine Fr.drew ?_)) (by have h1 := HGL.out; have h2 := HRE.out; omega) (fun k hk e => by have h1 := HW18.out k hk; have h2 := HRL.out; omega), (Fr.box (rb := rb) HFV.out (by with_reducible repeat (first | exact Fr.refl _ _ | refine Fr.setCell (S := fun k => k = rb) ?_ (fun _ => rfl) _ | refine Fr.drew ?_)) (by have := HRE.out; omega)).mono (fun k _ hk => .inl hk), fun k hk => .inr (HV18.out k hk)⟩⟩
        go_simp
        have HU1 := hid (show Fr No wM (wM.alloc (.cells #[] 30)).drew from ((Fr.refl No wM).alloc _).drew)
        have HE := hid (show Own 30 5 (wM.alloc (.cells #[] 30)).drew (.slice (some ⟨wM.heap.size, 0, none⟩) 0 0) 0 [] from Own.keep (Own.new wM 30 #[] 0 0 [] (by unfold maxLen; omega) (Nat.le_refl _) (by simp) (by simp)) ((Fr.refl No _).drew) (fun x _ => not_no x))
        generalize he0 : wM.heap.size = e0 at HE ⊢
        have HEB := hid (show wM.heap.size ≤ e0 from Nat.le_trans (Fr.refl No wM).size (Nat.le_of_eq he0))
        clear he0
        generalize (wM.alloc (.cells #[] 30)).drew = U1 at HU1 HE  ⊢
        refine hK.out _ _ ?_ (fun hHeld => ?_)
        · (try dsimp only)
          first | assumption | exact KS.out _ HU1.out
        clear hK K
        try simp only [Act.put, List.setIfInBounds_toArray, List.set_cons_zero, List.set_cons_succ]
        refine wpAnyF_ready (rs := [8, 10]) (by kernel_rfl) (by simp) ?_
        refine AllReadyF.cons (o := ⟨_, _, _, _, _, _⟩) rfl (fun K hK => ?_) ?_
        rotate_left
        · refine AllReadyF.cons (o := ⟨_, _, _, _, _, _⟩) rfl (fun K hK => ?_) AllReadyF.nil
          go_simp
          have HU2 := hid (show Fr No wM (U1.alloc (.cells #[.int .i64 node, .int .i64 version, .int .i64 fn, .int .i64 epoch, .int .i64 (tick + l)] 30)) from (HU1.out.alloc _))
          have HX2 := hid (show Rd 5 (U1.alloc (.cells #[.int .i64 node, .int .i64 version, .int .i64 fn, .int .i64 epoch, .int .i64 (tick + l)] 30)) (.slice (some ⟨U1.heap.size, 0, none⟩) 1 1) 1 (Ls.mk node version fn epoch (tick + l)).cells.toList from Rd.keep (Rd.lease U1 (Ls.mk node version fn epoch (tick + l))) (Fr.refl No _) (fun x _ => not_no x))
          have HXB := hid (show U1.heap.size < (U1.alloc (.cells #[.int .i64 node, .int .i64 version, .int .i64 fn, .int .i64 epoch, .int .i64 (tick + l)] 30)).heap.size by simp)
          have HNE := hid (show U1.heap.size ≠ e0 by have := Own.lt HE.out e0 (Of_some.2 rfl); omega)
          have HE := hid (Own.keep HE.out ((Fr.refl No U1).alloc (.cells #[.int .i64 node, .int .i64 version, .int .i64 fn, .int .i64 epoch, .int .i64 (tick + l)] 30)) (fun x _ => not_no x))
          generalize U1.heap.size = x0 at HX2 HXB HNE ⊢
          generalize (U1.alloc (.cells #[.int .i64 node, .int .i64 version, .int .i64 fn, .int .i64 epoch, .int .i64 (tick + l)] 30)) = U2 at HU2 HX2 HXB HE ⊢
          refine hK.out _ _ ?_ (fun hHeld => ?_)
          · (try dsimp only)
            first | assumption | exact KS.out _ HU2.out
          clear hK K
          try simp only [Act.put, List.setIfInBounds_toArray, List.set_cons_zero, List.set_cons_succ]
          refine wpAnyF_ready (rs := [8]) (by kernel_rfl) (by simp) ?_
          refine AllReadyF.cons (o := ⟨_, _, _, _, _, _⟩) rfl (fun K hK => ?_) AllReadyF.nil
          refine step_app _ rfl (.tmp 124) (.tmp 130) 38 rfl 30 zeroL 5 40 Try.underlying38 infoL rfl (.slice (some ⟨e0, 0, none⟩) 0 0) 0 [] (by simp [Act.eval, Act.put]) HE.out (.slice (some ⟨gA, 0, none⟩) t c) t (lcells (ys.take t)) (by simp [Act.eval, Act.put]) (HRT.out _ HU2.out) (by first | exact lcells_one _ | exact lc_one _ | simp) (by have h1 := HYL.out; have h2 := HTL.out; unfold maxLen; omega) (by have h1 := HYL.out; have h2 := HTL.out; omega) ?_
          intro v8 U3 O8 F8 G8
          have HO8 := hid (show Own 30 5 U3 v8 (0 + t) ([] ++ (lcells (ys.take t))) from O8)
          have HV8 := hid (show ∀ k, Of v8 k → wM.heap.size ≤ k from fun k hk => (G8 k hk).elim (fun h => by have h2 := HEB.out; have h3 : k = e0 := (by first | exact Of_some.1 h | exact (Of_some.1 h).symm); omega) (fun e => by rw [e]; exact HU2.out.size))
          have HU3 := hid (show Fr No wM U3 from HU2.out.fresh F8 (fun k hk => by have h2 := HEB.out; have h3 : k = e0 := (by first | exact Of_some.1 hk | exact (Of_some.1 hk).symm); omega))
          have HN8 := hid (show ∀ k, Of v8 k → x0 ≠ k from fun k hk => (G8 k hk).elim (fun h => by have h2 := HNE.out; have h3 : k = e0 := (by first | exact Of_some.1 h | exact (Of_some.1 h).symm); omega) (fun e => by have := HXB.out; omega))
          have HX2 := hid (Rd.keep HX2.out F8 (fun k hk h => by have h1 : k = e0 := (by first | exact Of_some.1 h | exact (Of_some.1 h).symm); have h4 : k = x0 := (by first | exact Of_some.1 hk | exact (Of_some.1 hk).symm); have := HNE.out; omega))
          clear O8 F8 G8 HE
          refine hK.out _ _ ?_ (fun hHeld => ?_)
          · (try dsimp only)
            first | assumption | exact KS.out _ HU3.out
          clear hK K
          try simp only [Act.put, List.setIfInBounds_toArray, List.set_cons_zero, List.set_cons_succ]
          refine wpAnyF_ready (rs := [11]) (by kernel_rfl) (by simp) ?_
          refine AllReadyF.cons (o := ⟨_, _, _, _, _, _⟩) rfl (fun K hK => ?_) AllReadyF.nil
          refine step_app _ rfl (.tmp 131) (.tmp 133) 38 rfl 30 zeroL 5 40 Try.underlying38 infoL rfl v8 (0 + t) ([] ++ (lcells (ys.take t))) (by simp [Act.eval, Act.put]) HO8.out (.slice (some ⟨x0, 0, none⟩) 1 1) 1 (Ls.mk node version fn epoch (tick + l)).cells.toList (by simp [Act.eval, Act.put]) HX2.out (by first | exact lcells_one _ | exact lc_one _ | simp) (by have h1 := HYL.out; have h2 := HTL.out; unfold maxLen; omega) (by have h1 := HYL.out; have h2 := HTL.out; omega) ?_
          intro v11 U4 O11 F11 G11
          have HO11 := hid O11
          have HV11 := hid (show ∀ k, Of v11 k → wM.heap.size ≤ k from fun k hk => (G11 k hk).elim (HV8.out k) (fun e => by rw [e]; exact HU3.out.size))
          have HU4 := hid (HU3.out.fresh F11 HV8.out)
          clear O11 F11 G11 HO8 HX2
          refine hK.out _ _ ?_ (fun hHeld => ?_)
          · (try dsimp only)
            first | assumption | exact KS.out _ HU4.out
          clear hK K
          try simp only [Act.put, List.setIfInBounds_toArray, List.set_cons_zero, List.set_cons_succ]
          refine wpAnyF_ready (rs := [18]) (by kernel_rfl) (by simp) ?_
          refine AllReadyF.cons (o := ⟨_, _, _, _, _, _⟩) rfl (fun K hK => ?_) AllReadyF.nil
          refine step_app _ rfl (.tmp 134) (.tmp 140) 38 rfl 30 zeroL 5 40 Try.underlying38 infoL rfl v11 (0 + t + 1) ([] ++ (lcells (ys.take t)) ++ (Ls.mk node version fn epoch (tick + l)).cells.toList) (by simp [Act.eval, Act.put]) HO11.out (.slice AD (ys.length - t) (c - t)) (ys.length - t) (lcells (ys.drop t)) (by simp [Act.eval, Act.put]) (HRD.out _ HU4.out) (by first | exact lcells_one _ | exact lc_one _ | simp) (by have h1 := HYL.out; have h2 := HTL.out; unfold maxLen; omega) (by have h1 := HYL.out; have h2 := HTL.out; omega) ?_
          intro v18 U5 O18 F18 G18
          have HW18 := hid (show ∀ k, Of v18 k → wM.heap.size ≤ k from fun k hk => (G18 k hk).elim (HV11.out k) (fun e => by rw [e]; exact HU4.out.size))
          have HV18 := hid (show ∀ k, Of v18 k → w.heap.size ≤ k from fun k hk => Nat.le_trans HGM.out.fr.size (HW18.out k hk))
          have HRL := hid HGM.out.res.lt
          have HU5 := hid (HU4.out.fresh F18 HV11.out)
          have HO18 := hid (show Own 30 5 U5 v18 (ys.take t ++ [(Ls.mk node version fn epoch (tick + l))] ++ ys.drop t).length (lcells (ys.take t ++ [(Ls.mk node version fn epoch (tick + l))] ++ ys.drop t)) from by
            have h1 : (ys.take t ++ [(Ls.mk node version fn epoch (tick + l))] ++ ys.drop t).length = 0 + t + 1 + (ys.length - t) := by have := HTL.out; simp; omega
            rw [h1, ← lcells_mid]
            exact O18)
          obtain ⟨A18, n18, c18, rfl⟩ : ∃ A n c, v18 = .slice A n c := by
            obtain ⟨A, c, h, _⟩ := HO18.out.slice
            exact ⟨_, _, _, h⟩
          have HGU := hid (HGM.out.keep HU5.out)
          clear O18 F18 G18 HO11
          refine hK.out _ _ ?_ (fun hHeld => ?_)
          · (try dsimp only)
            first | assumption | exact KS.out _ HU5.out
          clear hK K
          try simp only [Act.put, List.setIfInBounds_toArray, List.set_cons_zero, List.set_cons_succ]
          obtain ⟨g0, g1, g2, g3, gf⟩ := HGU.out.ref.blk.four
          clear KS HRT HRD
          refine wpAnyF_take (i := 19) (oi := ⟨_, _, _, _, _, _⟩) (v := ?_) rfl (by kernel_rfl) (by kernel_rfl) (by kernel_rfl) (by kernel_rfl) (fun _ _ _ h => h) (Or.inl ⟨by rfl, ?_⟩) (by assumption) ?_
          rotate_left
          · (intro w hSw; (try dsimp only at hSw); go_simp)
            try with_reducible rfl
          try simp only [Act.put, List.setIfInBounds_toArray, List.set_cons_zero, List.set_cons_succ]
          refine wpAnyF_take (i := 20) (oi := ⟨_, _, _, _, _, _⟩) (v := ?_) rfl (by kernel_rfl) (by kernel_rfl) (by kernel_rfl) (by kernel_rfl) (fun _ _ _ h => h) (Or.inl ⟨by rfl, ?_⟩) (by assumption) ?_
          rotate_left
          · (intro w hSw; (try dsimp only at hSw); go_simp)
            try with_reducible rfl
          try simp only [Act.put, List.setIfInBounds_toArray, List.set_cons_zero, List.set_cons_succ]
          refine wpAnyF_last (i := 21) (o := ⟨_, _, _, _, _, _⟩) (by kernel_rfl) rfl (by kernel_rfl) (by kernel_rfl) (fun K hK => ?_)
          go_simp
          refine hK.out _ _ ?_
          clear hK K g0 g1 g2 g3 gf
          have HR := hid (HGU.out.ref.anew HO18.out HGL.out HV18.out)
          have HFV := hid (show Fr (fun k => k = g) w (U5.setCell ⟨g, 3, none⟩ (.slice A18 n18 c18)) from Fr.setCell (S := fun k => k = g) (HGU.out.fr.mono (fun k _ h => absurd h (not_no k))) (p := ⟨g, 3, none⟩) (fun _ => rfl) _)
          have p3 := HGU.out.box.far (p := ⟨g, 3, none⟩) (by have h1 := HXE.out; have h2 := HRE.out; have h3 := HGL.out; show xb ≠ g; omega) (.slice A18 n18 c18)
          have p2 := HGU.out.res.far (p := ⟨g, 3, none⟩) (by have h2 := HRE.out; have h3 := HGL.out; show rb ≠ g; omega) (.slice A18 n18 c18)
          generalize U5.setCell ⟨g, 3, none⟩ (.slice A18 n18 c18) = V2 at HR HFV p2 p3 ⊢
          have z0 := p2.cell 0
          have z1 := p2.cell 1
          have z2 := p2.cell 2
          have z3 := p2.cell 3
          have z4 := p2.cell 4
          have zf := p2.frozen
          have x0 : V2.cell? ⟨xb, 0, none⟩ = some (.int .i64 node) := p3.cell 0
          have x1 : V2.cell? ⟨xb, 1, none⟩ = some (.int .i64 version) := p3.cell 1
          have x2 : V2.cell? ⟨xb, 2, none⟩ = some (.int .i64 fn) := p3.cell 2
          have x3 : V2.cell? ⟨xb, 3, none⟩ = some (.int .i64 epoch) := p3.cell 3
          have x4 : V2.cell? ⟨xb, 4, none⟩ = some (.int .i64 (tick + l)) := p3.cell 4
          clear p2 p3
          go_wp2_with fail
          refine ⟨rfl, ?_⟩
          refine ⟨.tuple #[.agg #[.int .i64 node, .int .i64 version, .int .i64 fn, .int .i64 epoch, .int .i64 (tick + l)], .int .i64 0], ?_, ?_⟩
          · have hres : Try.f20.results = #[.cell 12 30, .tmp 13] := rfl
            simp [results, hres, asAddr]
            try go_simp
            try rfl
          · exact ⟨t, htl, HB.out, .inr ⟨fun y hy => (by rw [List.getElem?_eq_none (by omega)] at hy; cases hy), rfl, _, HR.out.far (by with_reducible repeat (first | exact Fr.refl _ _ | refine Fr.setCell (S := fun k => k = rb) ?_ (fun _ => rfl) _ | refine Fr.drew ?_)) (by have h1 := HGL.out; have h2 := HRE.out; omega) (fun k hk e => by have h1 := HW18.out k hk; have h2 := HRL.out; omega), (Fr.box (rb := rb) HFV.out (by with_reducible repeat (first | exact Fr.refl _ _ | refine Fr.setCell (S := fun k => k = rb) ?_ (fun _ => rfl) _ | refine Fr.drew ?_)) (by have := HRE.out; omega)).mono (fun k _ hk => .inl hk), fun k hk => .inr (HV18.out k hk)⟩⟩
        refine step_app _ rfl (.tmp 124) (.tmp 130) 38 rfl 30 zeroL 5 40 Try.underlying38 infoL rfl (.slice (some ⟨e0, 0, none⟩) 0 0) 0 [] (by simp [Act.eval, Act.put]) HE.out (.slice (some ⟨gA, 0, none⟩) t c) t (lcells (ys.take t)) (by simp [Act.eval, Act.put]) (HRT.out _ HU1.out) (by first | exact lcells_one _ | exact lc_one _ | simp) (by have h1 := HYL.out; have h2 := HTL.out; unfold maxLen; omega) (by have h1 := HYL.out; have h2 := HTL.out; omega) ?_
        intro v8 U2 O8 F8 G8
        have HO8 := hid (show Own 30 5 U2 v8 (0 + t) ([] ++ (lcells (ys.take t))) from O8)
        have HV8 := hid (show ∀ k, Of v8 k → wM.heap.size ≤ k from fun k hk => (G8 k hk).elim (fun h => by have h2 := HEB.out; have h3 : k = e0 := (by first | exact Of_some.1 h | exact (Of_some.1 h).symm); omega) (fun e => by rw [e]; exact HU1.out.size))
        have HU2 := hid (show Fr No wM U2 from HU1.out.fresh F8 (fun k hk => by have h2 := HEB.out; have h3 : k = e0 := (by first | exact Of_some.1 hk | exact (Of_some.1 hk).symm); omega))
        clear O8 F8 G8 HE
        refine hK.out _ _ ?_ (fun hHeld => ?_)
        · (try dsimp only)
          first | assumption | exact KS.out _ HU2.out
        clear hK K
        try simp only [Act.put, List.setIfInBounds_toArray, List.set_cons_zero, List.set_cons_succ]
        refine wpAnyF_ready (rs := [10]) (by kernel_rfl) (by simp) ?_
        refine AllReadyF.cons (o := ⟨_, _, _, _, _, _⟩) rfl (fun K hK => ?_) AllReadyF.nil
        go_simp
        have HU3 := hid (show Fr No wM (U2.alloc (.cells #[.int .i64 node, .int .i64 version, .int .i64 fn, .int .i64 epoch, .int .i64 (tick + l)] 30)) from (HU2.out.alloc _))
        have HX2 := hid (show Rd 5 (U2.alloc (.cells #[.int .i64 node, .int .i64 version, .int .i64 fn, .int .i64 epoch, .int .i64 (tick + l)] 30)) (.slice (some ⟨U2.heap.size, 0, none⟩) 1 1) 1 (Ls.mk node version fn epoch (tick + l)).cells.toList from Rd.keep (Rd.lease U2 (Ls.mk node version fn epoch (tick + l))) (Fr.refl No _) (fun x _ => not_no x))
        have HXB := hid (show U2.heap.size < (U2.alloc (.cells #[.int .i64 node, .int .i64 version, .int .i64 fn, .int .i64 epoch, .int .i64 (tick + l)] 30)).heap.size by simp)
        have HN8 := hid (show ∀ k, Of v8 k → U2.heap.size ≠ k from fun k hk => by have := Own.lt HO8.out k hk; omega)
        have HO8 := hid (Own.keep HO8.out ((Fr.refl No U2).alloc (.cells #[.int .i64 node, .int .i64 version, .int .i64 fn, .int .i64 epoch, .int .i64 (tick + l)] 30)) (fun x _ => not_no x))
        generalize U2.heap.size = x0 at HX2 HXB HN8 ⊢
        generalize (U2.alloc (.cells #[.int .i64 node, .int .i64 version, .int .i64 fn, .int .i64 epoch, .int .i64 (tick + l)] 30)) = U3 at HU3 HX2 HXB HO8 ⊢
        refine hK.out _ _ ?_ (fun hHeld => ?_)
        · (try dsimp only)
          first | assumption | exact KS.out _ HU3.out
        clear hK K
        try simp only [Act.put, List.setIfInBounds_toArray, List.set_cons_zero, List.set_cons_succ]
        refine wpAnyF_ready (rs := [11]) (by kernel_rfl) (by simp) ?_
        refine AllReadyF.cons (o := ⟨_, _, _, _, _, _⟩) rfl (fun K hK => ?_) AllReadyF.nil
        refine step_app _ rfl (.tmp 131) (.tmp 133) 38 rfl 30 zeroL 5 40 Try.underlying38 infoL rfl v8 (0 + t) ([] ++ (lcells (ys.take t))) (by simp [Act.eval, Act.put]) HO8.out (.slice (some ⟨x0, 0, none⟩) 1 1) 1 (Ls.mk node version fn epoch (tick + l)).cells.toList (by simp [Act.eval, Act.put]) HX2.out (by first | exact lcells_one _ | exact lc_one _ | simp) (by have h1 := HYL.out; have h2 := HTL.out; unfold maxLen; omega) (by have h1 := HYL.out; have h2 := HTL.out; omega) ?_
        intro v11 U4 O11 F11 G11
        have HO11 := hid O11
        have HV11 := hid (show ∀ k, Of v11 k → wM.heap.size ≤ k from fun k hk => (G11 k hk).elim (HV8.out k) (fun e => by rw [e]; exact HU3.out.size))
        have HU4 := hid (HU3.out.fresh F11 HV8.out)
        clear O11 F11 G11 HO8 HX2
        refine hK.out _ _ ?_ (fun hHeld => ?_)
        · (try dsimp only)
          first | assumption | exact KS.out _ HU4.out
        clear hK K
        try simp only [Act.put, List.setIfInBounds_toArray, List.set_cons_zero, List.set_cons_succ]
        refine wpAnyF_ready (rs := [18]) (by kernel_rfl) (by simp) ?_
        refine AllReadyF.cons (o := ⟨_, _, _, _, _, _⟩) rfl (fun K hK => ?_) AllReadyF.nil
        refine step_app _ rfl (.tmp 134) (.tmp 140) 38 rfl 30 zeroL 5 40 Try.underlying38 infoL rfl v11 (0 + t + 1) ([] ++ (lcells (ys.take t)) ++ (Ls.mk node version fn epoch (tick + l)).cells.toList) (by simp [Act.eval, Act.put]) HO11.out (.slice AD (ys.length - t) (c - t)) (ys.length - t) (lcells (ys.drop t)) (by simp [Act.eval, Act.put]) (HRD.out _ HU4.out) (by first | exact lcells_one _ | exact lc_one _ | simp) (by have h1 := HYL.out; have h2 := HTL.out; unfold maxLen; omega) (by have h1 := HYL.out; have h2 := HTL.out; omega) ?_
        intro v18 U5 O18 F18 G18
        have HW18 := hid (show ∀ k, Of v18 k → wM.heap.size ≤ k from fun k hk => (G18 k hk).elim (HV11.out k) (fun e => by rw [e]; exact HU4.out.size))
        have HV18 := hid (show ∀ k, Of v18 k → w.heap.size ≤ k from fun k hk => Nat.le_trans HGM.out.fr.size (HW18.out k hk))
        have HRL := hid HGM.out.res.lt
        have HU5 := hid (HU4.out.fresh F18 HV11.out)
        have HO18 := hid (show Own 30 5 U5 v18 (ys.take t ++ [(Ls.mk node version fn epoch (tick + l))] ++ ys.drop t).length (lcells (ys.take t ++ [(Ls.mk node version fn epoch (tick + l))] ++ ys.drop t)) from by
          have h1 : (ys.take t ++ [(Ls.mk node version fn epoch (tick + l))] ++ ys.drop t).length = 0 + t + 1 + (ys.length - t) := by have := HTL.out; simp; omega
          rw [h1, ← lcells_mid]
          exact O18)
        obtain ⟨A18, n18, c18, rfl⟩ : ∃ A n c, v18 = .slice A n c := by
          obtain ⟨A, c, h, _⟩ := HO18.out.slice
          exact ⟨_, _, _, h⟩
        have HGU := hid (HGM.out.keep HU5.out)
        clear O18 F18 G18 HO11
        refine hK.out _ _ ?_ (fun hHeld => ?_)
        · (try dsimp only)
          first | assumption | exact KS.out _ HU5.out
        clear hK K
        try simp only [Act.put, List.setIfInBounds_toArray, List.set_cons_zero, List.set_cons_succ]
        obtain ⟨g0, g1, g2, g3, gf⟩ := HGU.out.ref.blk.four
        clear KS HRT HRD
        refine wpAnyF_take (i := 19) (oi := ⟨_, _, _, _, _, _⟩) (v := ?_) rfl (by kernel_rfl) (by kernel_rfl) (by kernel_rfl) (by kernel_rfl) (fun _ _ _ h => h) (Or.inl ⟨by rfl, ?_⟩) (by assumption) ?_
        rotate_left
        · (intro w hSw; (try dsimp only at hSw); go_simp)
          try with_reducible rfl
        try simp only [Act.put, List.setIfInBounds_toArray, List.set_cons_zero, List.set_cons_succ]
        refine wpAnyF_take (i := 20) (oi := ⟨_, _, _, _, _, _⟩) (v := ?_) rfl (by kernel_rfl) (by kernel_rfl) (by kernel_rfl) (by kernel_rfl) (fun _ _ _ h => h) (Or.inl ⟨by rfl, ?_⟩) (by assumption) ?_
        rotate_left
        · (intro w hSw; (try dsimp only at hSw); go_simp)
          try with_reducible rfl
        try simp only [Act.put, List.setIfInBounds_toArray, List.set_cons_zero, List.set_cons_succ]
        refine wpAnyF_last (i := 21) (o := ⟨_, _, _, _, _, _⟩) (by kernel_rfl) rfl (by kernel_rfl) (by kernel_rfl) (fun K hK => ?_)
        go_simp
        refine hK.out _ _ ?_
        clear hK K g0 g1 g2 g3 gf
        have HR := hid (HGU.out.ref.anew HO18.out HGL.out HV18.out)
        have HFV := hid (show Fr (fun k => k = g) w (U5.setCell ⟨g, 3, none⟩ (.slice A18 n18 c18)) from Fr.setCell (S := fun k => k = g) (HGU.out.fr.mono (fun k _ h => absurd h (not_no k))) (p := ⟨g, 3, none⟩) (fun _ => rfl) _)
        have p3 := HGU.out.box.far (p := ⟨g, 3, none⟩) (by have h1 := HXE.out; have h2 := HRE.out; have h3 := HGL.out; show xb ≠ g; omega) (.slice A18 n18 c18)
        have p2 := HGU.out.res.far (p := ⟨g, 3, none⟩) (by have h2 := HRE.out; have h3 := HGL.out; show rb ≠ g; omega) (.slice A18 n18 c18)
        generalize U5.setCell ⟨g, 3, none⟩ (.slice A18 n18 c18) = V2 at HR HFV p2 p3 ⊢
        have z0 := p2.cell 0
        have z1 := p2.cell 1
        have z2 := p2.cell 2
        have z3 := p2.cell 3
        have z4 := p2.cell 4
        have zf := p2.frozen
        have x0 : V2.cell? ⟨xb, 0, none⟩ = some (.int .i64 node) := p3.cell 0
        have x1 : V2.cell? ⟨xb, 1, none⟩ = some (.int .i64 version) := p3.cell 1
        have x2 : V2.cell? ⟨xb, 2, none⟩ = some (.int .i64 fn) := p3.cell 2
        have x3 : V2.cell? ⟨xb, 3, none⟩ = some (.int .i64 epoch) := p3.cell 3
        have x4 : V2.cell? ⟨xb, 4, none⟩ = some (.int .i64 (tick + l)) := p3.cell 4
        clear p2 p3
        go_wp2_with fail
        refine ⟨rfl, ?_⟩
        refine ⟨.tuple #[.agg #[.int .i64 node, .int .i64 version, .int .i64 fn, .int .i64 epoch, .int .i64 (tick + l)], .int .i64 0], ?_, ?_⟩
        · have hres : Try.f20.results = #[.cell 12 30, .tmp 13] := rfl
          simp [results, hres, asAddr]
          try go_simp
          try rfl
        · exact ⟨t, htl, HB.out, .inr ⟨fun y hy => (by rw [List.getElem?_eq_none (by omega)] at hy; cases hy), rfl, _, HR.out.far (by with_reducible repeat (first | exact Fr.refl _ _ | refine Fr.setCell (S := fun k => k = rb) ?_ (fun _ => rfl) _ | refine Fr.drew ?_)) (by have h1 := HGL.out; have h2 := HRE.out; omega) (fun k hk e => by have h1 := HW18.out k hk; have h2 := HRL.out; omega), (Fr.box (rb := rb) HFV.out (by with_reducible repeat (first | exact Fr.refl _ _ | refine Fr.setCell (S := fun k => k = rb) ?_ (fun _ => rfl) _ | refine Fr.drew ?_)) (by have := HRE.out; omega)).mono (fun k _ hk => .inl hk), fun k hk => .inr (HV18.out k hk)⟩⟩
end Go.Proofs.Ythcebkbedfaoeaa
