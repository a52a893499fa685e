import Derived.Test.YthcebkbedfaoeaaAllC
/-! (*Table).All. -/
namespace Go.Proofs.Ythcebkbedfaoeaa
open Go.RowKit Go.Shelf Go.Lib
set_option linter.unusedVariables false
set_option linter.unusedSimpArgs false

instance : Inhabited Ls := ⟨⟨0, 0, 0, 0, 0⟩⟩
def encL (x : Ls) : List Value := x.cells.toList
theorem encL_len (x : Ls) : (encL x).length = 5 := rfl
theorem cmpL_neg (x y : Ls) : cmpL x y < 0 ↔ (x.node < y.node ∨ (x.node = y.node ∧ (x.version < y.version ∨ (x.version = y.version ∧ x.fn < y.fn)))) := by
  unfold cmpL orI cmpI
  rcases Int.lt_trichotomy x.node y.node with h1 | h1 | h1 <;> rcases Int.lt_trichotomy x.version y.version with h2 | h2 | h2 <;> rcases Int.lt_trichotomy x.fn y.fn with h3 | h3 | h3 <;> simp [h1, h2, h3] <;> (try omega) <;> (repeat (first | rw [if_neg (by omega)] | rw [if_pos (by omega)])) <;> simp <;> (try omega)
theorem ltL (x y : Ls) : ltOf cmpL x y = decide (x.node < y.node ∨ (x.node = y.node ∧ (x.version < y.version ∨ (x.version = y.version ∧ x.fn < y.fn)))) := by
  unfold ltOf
  rw [Bool.eq_iff_iff, decide_eq_true_eq, decide_eq_true_eq, cmpL_neg]
theorem swoL : Sort.SWO (ltOf cmpL) where
  irrefl x := by rw [ltL]; simp
  trans x y z h1 h2 := by rw [ltL] at *; rw [decide_eq_true_eq] at *; omega
  ntrans x y z h1 h2 := by rw [ltL] at *; rw [decide_eq_false_iff_not] at *; omega
theorem flat_lcells (d : Array Ls) : (Sort.flatK encL 5 d).toList = lcells d.toList := by
  apply List.ext_getElem?
  intro t
  by_cases ht : t < d.size * 5
  · have h1 : t / 5 < d.size := by omega
    have h2 := Sort.get_flatK encL 5 d t ht
    have h3 := rows_get (c := fun x : Ls => x.cells.toList) (s := 5) lc_len (l := d.toList) (k := t / 5) (x := d[t / 5]!) (by rw [Array.getElem?_toList, Array.getElem?_eq_getElem h1, getElem!_pos d (t / 5) h1]) (t % 5) (by omega)
    rw [show t / 5 * 5 + t % 5 = t by omega] at h3
    unfold lcells
    rw [h3, Array.getElem?_toList, Array.getElem?_eq_getElem (by simpa using ht)]
    rw [getElem!_pos _ t (by simpa using ht)] at h2
    rw [h2]
    unfold encL
    have h5 : t % 5 < (d[t / 5]!).cells.toList.length := by rw [lc_len]; omega
    rw [List.getElem?_eq_getElem h5]
    exact congrArg some (getElem!_pos (d[t / 5]!).cells.toList (t % 5) h5)
  · have hl : (lcells d.toList).length = d.size * 5 := by
      unfold lcells
      have := rows_length (c := fun x : Ls => x.cells.toList) (s := 5) lc_len d.toList
      simpa using this
    rw [List.getElem?_eq_none (by simp; omega), List.getElem?_eq_none (by omega)]
theorem heap_sortedV {w : World} {g n : Nat} {os : Array Obj} {cur : Array Value} {e : TypeId} {fr : Nat × Nat} (d : Array Value) (hb : w.heap[g]? = some (.cells cur e fr)) :
    (Sort.grow (Sort.putRow id (Sort.ahead w n) g 0 d) os).heap[g]? = some (.cells (Sort.putCells id 0 d cur) e fr) := by
  have hg : g < w.heap.size := (Array.getElem?_eq_some_iff.1 hb).1
  rw [Sort.heap_grow_old _ _ (by simpa using hg)]
  simp [Sort.putRow, Sort.mapBlock, Sort.ahead, Array.getElem?_modify, hb, Sort.onCells]
theorem fr_sortedV {w : World} {g n : Nat} {os : Array Obj} (d : Array Value) : Fr (fun k => k = g) w (Sort.grow (Sort.putRow id (Sort.ahead w n) g 0 d) os) := by
  refine ⟨rfl, rfl, rfl, by simp, fun k hk hne => ?_⟩
  rw [Sort.heap_grow_old _ _ (by simpa using hk)]
  have : ¬ g = k := fun e => hne e.symm
  simp [Sort.putRow, Sort.mapBlock, Sort.ahead, Array.getElem?_modify, this]
theorem take_putV (cur : Array Value) (F : Array Value) (h : F.size ≤ cur.size) : (Sort.putCells id 0 F cur).toList.take F.size = F.toList := by
  apply List.ext_getElem?
  intro j
  by_cases hj : j < F.size
  · rw [List.getElem?_take_of_lt hj, Array.getElem?_toList]
    simp [Sort.putCells, hj, show j < cur.size by omega]
  · rw [List.getElem?_take_eq_none (by omega), List.getElem?_eq_none (by simp; omega)]
/-! ## nothing sorted -/
set_option maxRecDepth 100000 in
set_option maxHeartbeats 400000 in
theorem insSortC_0 (w : World) (v f : Value) : Calls Try.prog 59 #[v, .int .i64 0, .int .i64 0, f] w fun e w' => e = .returned (.tuple #[]) ∧ w' = w := by
  go_enter Try.func59, Try.ntmps59
  go_wp2_with fail
  refine wp_loop_rounds 1 ?_
  unfold Code.rounds
  go_wp2_with fail
  go_end0
  exact ⟨rfl, rfl⟩
set_option maxRecDepth 100000 in
set_option maxHeartbeats 400000 in
theorem pdqC_0 (w : World) (v f : Value) (n : Int) : Calls Try.prog 46 #[v, .int .i64 0, .int .i64 0, .int .i64 n, f] w fun e w' => e = .returned (.tuple #[]) ∧ w' = w := by
  go_enter Try.func46, Try.ntmps46
  go_wp2_with fail
  refine wp_loop_rounds 1 ?_
  unfold Code.rounds
  go_wp2_with fail
  refine (insSortC_0 _ _ _).mono ?_
  rintro e wx ⟨rfl, rfl⟩
  go_wp2_with fail
  (try simp only [Exit.inBlock, Exit.then])
  refine bodyPost_ret (results_none rfl _ _ _) rfl ?_
  exact ⟨rfl, rfl⟩
set_option maxRecDepth 100000 in
set_option maxHeartbeats 400000 in
theorem sortF_0 (w : World) (f : Value) : Calls Try.prog 34 #[.slice none 0 0, f] w fun e w' => e = .returned (.tuple #[]) ∧ w' = w := by
  go_enter Try.func34, Try.ntmps34
  go_wp2_with fail
  refine (bitsLen_0 _).mono ?_
  rintro e wx ⟨n, rfl, rfl⟩
  go_wp2_with fail
  refine (pdqC_0 _ _ _ _).mono ?_
  rintro e wx ⟨rfl, rfl⟩
  go_wp2_with fail
  go_end0
  exact ⟨rfl, rfl⟩
/-! ## leases sorted -/
def Asc (ys : List Ls) : Prop := ys.Pairwise (fun x y => ltOf cmpL y x = false)
theorem sortF_c (w : World) (v : Value) (xs : List Ls) (h : Own 30 5 w v xs.length (lcells xs)) (hl : xs.length ≤ 1000000) :
    Calls Try.prog 34 #[v, .func (.func 35) #[] #[]] w fun e w' => e = .returned (.tuple #[]) ∧ ∃ ys : List Ls, ys.Perm xs ∧ Asc ys ∧ Own 30 5 w' v ys.length (lcells ys) ∧ Fr (Of v) w w' := by
  have hx := h
  rcases h.2 with ⟨rfl, h0⟩ | ⟨g, cap, cur, rfl, hb, h1, h2, h3, h4⟩
  · have : xs = [] := List.eq_nil_of_length_eq_zero h0
    subst this
    refine (sortF_0 w _).mono ?_
    rintro e w' ⟨rfl, rfl⟩
    exact ⟨rfl, [], List.Perm.refl _, List.Pairwise.nil, hx, Fr.refl _ _⟩
  · have eg : ∀ args w, (callFunc 35 args).run Try.prog w = .ok (.enter 35 args) w := enters_of Try.func35 (by kernel_rfl) rfl
    have hsz : (Sort.flatK encL 5 xs.toArray).size = xs.length * 5 := by simp
    have hH : Sort.HoldsK encL 5 w g 0 xs.toArray := by
      intro j hj
      rw [hsz] at hj
      refine ⟨?_, by simp [World.frozen?, hb]⟩
      have e1 : (Sort.flatK encL 5 xs.toArray).toList[j]? = (lcells xs)[j]? := by rw [flat_lcells]
      rw [Array.getElem?_toList, Array.getElem?_eq_getElem (by omega)] at e1
      have e2 : (cur.toList.take (xs.length * 5))[j]? = (lcells xs)[j]? := by rw [h4]
      rw [List.getElem?_take_of_lt hj, ← e1] at e2
      simp only [World.cell?, hb, Nat.zero_add]
      simp only [Option.isSome_none, Bool.false_eq_true, if_false]
      rw [← Array.getElem?_toList, e2, getElem!_pos _ j (by omega)]
      rfl
    have hcmp : CmpLays Try.prog 35 #[] encL 5 cmpL g 0 xs.toArray.size w := fun m os dk _ x y => cmpL_c x y _
    have hc := AnyQ.slices_SortFunc Try.sortLease 5 (fun w => by kernel_rfl) (fun w => by kernel_rfl) encL encL_len (fun x => lc_one x) cmpL swoL 35 #[] g 0 cap xs.toArray w eg hcmp hH (Array.getElem?_eq_some_iff.1 hb).1 (by simp; omega)
    refine Calls.mono (show Calls Try.prog 34 #[.slice (some ⟨g, 0, none⟩) xs.toArray.size cap, .func (.func 35) #[] #[]] w _ from hc) ?_
    rintro e w' ⟨rfl, d', n, os, hp, hs, rfl⟩
    have hdl : d'.size = xs.length := by have := hp.1; simpa using this
    refine ⟨rfl, d'.toList, ?_, ?_, ?_, (fr_sortedV _).mono (fun k _ hk => Of_some.2 hk)⟩
    · have := hp.2.2
      have e1 : d'.extract 0 xs.toArray.size = d' := by rw [show xs.toArray.size = d'.size by simp [hdl]]; simp
      have e2 : xs.toArray.extract 0 xs.toArray.size = xs.toArray := by simp
      rw [e1, e2] at this
      simpa using this
    · unfold Asc
      rw [List.pairwise_iff_getElem]
      intro i j hi hj hij
      have hi' : i < d'.size := by simpa using hi
      have hj' : j < d'.size := by simpa using hj
      have := hs i j (Nat.zero_le _) hij (by simp; omega)
      rw [getElem!_pos d' j hj', getElem!_pos d' i hi'] at this
      simpa using this
    · refine ⟨by rw [← flat_lcells]; simp, .inr ⟨g, cap, _, by rw [show d'.toList.length = xs.length by simpa using hdl], heap_sortedV _ hb, by rw [show d'.toList.length = xs.length by simpa using hdl]; exact h1, h2, by simpa [Sort.putCells] using h3, ?_⟩⟩
      rw [← flat_lcells]
      have := take_putV cur (Sort.flatK encL 5 d') (by simp [hdl]; omega)
      simpa using this
theorem of_below_no {w w' : World} (h : Below w.heap.size w w') : Fr No w w' := (Fr.of_below h).mono (fun k hk hS => absurd hS (by omega))
set_option maxRecDepth 100000 in
set_option maxHeartbeats 2000000 in
theorem all_c {w : World} {g b : Nat} {n l s : Int} {ms : List (K3 × Ls)} (h : IsTab w g b n l s ms) (hml : ms.length ≤ 100000) :
    Calls Try.prog 13 #[.pointer (some ⟨g, 0, none⟩)] w fun e w' => ∃ v, ∃ ys : List Ls, e = .returned v ∧ ys.Perm (ms.map (·.2)) ∧ Asc ys ∧ Own 30 5 w' v ys.length (lcells ys) ∧ Fr No w w' ∧ ∀ x, Of v x → w.heap.size ≤ x := by
  obtain ⟨c0, c1, c2, c3, cf⟩ := h.blk.four
  have H := hid h
  have cV := fun w => (callsIn_wide (n := 5)).1 (values_c Fence.wide 5 trivial rfl (some b) w)
  have HML := hid hml
  have HCOL := hid (show Calls Try.prog 32 #[.func (.func 45) #[] #[.pointer (some ⟨w.heap.size, 0, none⟩)]] (w.alloc (.cells #[.map (some b)] 25)) fun e W' => ∃ (v : Value) (xs : List Ls), e = .returned v ∧ xs.Perm (ms.map (·.2)) ∧ W'.ownsRow (w.alloc (.cells #[.map (some b)] 25)).heap.size 30 5 v xs.length (lcells xs) ∧ Below (w.alloc (.cells #[.map (some b)] 25)).heap.size (w.alloc (.cells #[.map (some b)] 25)) W' from
    (callsIn_wide (n := 10)).1 (collect_c Fence.wide 10 trivial trivial 45 trivial (enters_of Try.func45 (by kernel_rfl) rfl) rfl (by omega) _ _ ms.length hml _
      (values_stops Fence.wide 8 trivial rfl (by omega) w.heap.size b ms _ (by simp) ((Blk.new w 25 #[.map (some b)]).cell 0) (h.map.keep ((Fr.refl No w).alloc _) (not_no _)))))
  clear h hml
  go_enter Try.func13, Try.ntmps13
  go_wp2_with fail
  refine (right_yes H.out.blk).mono ?_
  rintro e wx ⟨rfl, rfl⟩
  go_wp2_with fail
  refine (cV _).mono ?_
  rintro e w1 ⟨rfl, rfl⟩
  go_wp2_with fail
  refine HCOL.out.mono ?_
  rintro e w2 ⟨v, xs, rfl, hp, hrow, hb⟩
  have HP := hid hp
  have HO := hid (Own.of_owns hrow)
  have F2 := hid (((Fr.refl No _).alloc _).fresh_no (of_below_no hb))
  have HNW := hid (show ∀ x, Of v x → wx.heap.size ≤ x from fun x hx => by
    have := (hrow.lt x hx).1
    simp at this
    omega)
  have HXL := hid (show xs.length ≤ 1000000 by have h1 := hp.length_eq; have h2 := HML.out; simp at h1; omega)
  clear hp hrow hb cV
  go_wp2_with fail
  refine (sortF_c _ _ xs HO.out HXL.out).mono ?_
  rintro e w3 ⟨rfl, ys, hp3, ha3, o3, f3⟩
  have HF3 := hid (F2.out.fresh f3 HNW.out)
  have HE := hid (And.intro (hp3.trans HP.out) (And.intro ha3 o3))
  clear hp3 ha3 o3 f3
  go_wp2_with fail
  go_ret
  exact ⟨_, ys, rfl, HE.out.1, HE.out.2.1, HE.out.2.2, HF3.out, HNW.out⟩
end Go.Proofs.Ythcebkbedfaoeaa
