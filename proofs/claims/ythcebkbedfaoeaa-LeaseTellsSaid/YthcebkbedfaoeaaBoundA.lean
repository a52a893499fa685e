import Derived.Test.YthcebkbedfaoeaaLeaseH
/-! LeaseBound's plain law; renewed; rows of leases. -/
namespace Go.Proofs.Ythcebkbedfaoeaa
open Go.RowKit
set_option linter.unusedVariables false
set_option linter.unusedSimpArgs false

def Ls.key (x : Ls) : K3 := (x.node, x.version, x.fn)
/-- what the grants and expiries up to tick keep true -/
structure Inv (ms : List (K3 × Ls)) (G : List Ls) (s tick : Int) : Prop where
  keyed : ∀ p ∈ ms, p.1 = p.2.key
  mem : ∀ p ∈ ms, p.2 ∈ G
  bnd : ∀ x ∈ G, 0 ≤ x.node ∧ x.node < 4 ∧ 0 ≤ x.till ∧ x.till ≤ 10000
  cover : ∀ x ∈ G, x.till + s ≤ tick ∨ ∃ y, (x.key, y) ∈ ms ∧ x.till ≤ y.till ∧ x.epoch ≤ y.epoch
  nodup : (ms.map (·.1)).Nodup
theorem mem_putT {k : K3} {x : Ls} {ms : List (K3 × Ls)} {p : K3 × Ls} : p ∈ putT k x ms → p = (k, x) ∨ (p ∈ ms ∧ p.1 ≠ k) := by
  unfold putT
  split
  · intro h
    obtain ⟨q, hq, he⟩ := List.mem_map.1 h
    by_cases hk : q.1 = k
    · rw [if_pos hk] at he; exact .inl he.symm
    · rw [if_neg hk] at he; subst he; exact .inr ⟨hq, hk⟩
  · intro h
    rename_i hk
    rcases List.mem_append.1 h with h | h
    · exact .inr ⟨h, fun e => hk (List.mem_map.2 ⟨p, h, e⟩)⟩
    · exact .inl (by simpa using h)
theorem putT_mem (k : K3) (x : Ls) (ms : List (K3 × Ls)) : (k, x) ∈ putT k x ms := by
  unfold putT
  split
  · rename_i h
    obtain ⟨q, hq, he⟩ := List.mem_map.1 h
    exact List.mem_map.2 ⟨q, hq, by simp [he]⟩
  · simp
theorem putT_other {k : K3} {x : Ls} {ms : List (K3 × Ls)} {p : K3 × Ls} (hp : p ∈ ms) (hk : p.1 ≠ k) : p ∈ putT k x ms := by
  unfold putT
  split
  · exact List.mem_map.2 ⟨p, hp, by simp [hk]⟩
  · exact List.mem_append.2 (.inl hp)
theorem putT_keys (k : K3) (x : Ls) (ms : List (K3 × Ls)) (hn : (ms.map (·.1)).Nodup) : ((putT k x ms).map (·.1)).Nodup := by
  unfold putT
  split
  · have : (ms.map (fun p => if p.1 = k then (k, x) else p)).map (·.1) = ms.map (·.1) := by
      rw [List.map_map]
      apply List.map_congr_left
      intro p _
      by_cases hp : p.1 = k <;> simp [hp]
    rw [this]
    exact hn
  · rename_i h
    rw [List.map_append, List.nodup_append]
    refine ⟨hn, by simp, ?_⟩
    intro a ha b hb e
    simp at hb
    subst hb e
    exact h ha
theorem putT_len (k : K3) (x : Ls) (ms : List (K3 × Ls)) : (putT k x ms).length ≤ ms.length + 1 := by
  unfold putT
  split <;> simp
theorem was_mem {k : K3} {y : Ls} {ms : List (K3 × Ls)} (hn : (ms.map (·.1)).Nodup) (h : (k, y) ∈ ms) : wasOf k ms = y := by
  unfold wasOf getT
  cases hf : ms.find? (fun p => decide (p.1 = k)) with
  | none =>
    have := List.find?_eq_none.1 hf (k, y) h
    simp at this
  | some q =>
    have h1 := List.mem_of_find?_eq_some hf
    have h2 := List.find?_some hf
    simp at h2
    have := key_same hn h1 h h2
    subst this
    rfl
section
variable {ms : List (K3 × Ls)} {G : List Ls} {s tick : Int}
theorem Inv.later (h : Inv ms G s tick) {t2 : Int} (ht : tick ≤ t2) : Inv ms G s t2 := ⟨h.keyed, h.mem, h.bnd, fun x hx => (h.cover x hx).imp (fun h => by omega) id, h.nodup⟩
theorem Inv.grant (h : Inv ms G s tick) (x : Ls) (hb : 0 ≤ x.node ∧ x.node < 4 ∧ 0 ≤ x.till ∧ x.till ≤ 10000) (he : (wasOf x.key ms).epoch ≤ x.epoch) (ht : (wasOf x.key ms).till ≤ x.till) : Inv (putT x.key x ms) (G ++ [x]) s tick := by
  refine ⟨fun p hp => ?_, fun p hp => ?_, fun y hy => ?_, fun y hy => ?_, putT_keys _ _ _ h.nodup⟩
  · rcases mem_putT hp with rfl | ⟨hp, _⟩
    · rfl
    · exact h.keyed p hp
  · rcases mem_putT hp with rfl | ⟨hp, _⟩
    · simp
    · exact List.mem_append.2 (.inl (h.mem p hp))
  · rcases List.mem_append.1 hy with hy | hy
    · exact h.bnd y hy
    · simp at hy; subst hy; exact hb
  · rcases List.mem_append.1 hy with hy | hy
    · rcases h.cover y hy with h1 | ⟨z, hz, h1, h2⟩
      · exact .inl h1
      · right
        by_cases hk : y.key = x.key
        · have hw : wasOf x.key ms = z := was_mem h.nodup (hk ▸ hz)
          rw [hw] at he ht
          exact ⟨x, by rw [hk]; exact putT_mem _ _ _, by omega, by omega⟩
        · exact ⟨z, putT_other hz hk, h1, h2⟩
    · simp at hy
      subst hy
      exact .inr ⟨y, putT_mem _ _ _, Int.le_refl _, Int.le_refl _⟩
theorem Inv.expire (h : Inv ms G s tick) : Inv (ms.filter (fun p => !goesE s tick p.2)) G s tick := by
  refine ⟨fun p hp => h.keyed p (List.mem_filter.1 hp).1, fun p hp => h.mem p (List.mem_filter.1 hp).1, h.bnd, fun x hx => ?_, h.nodup.sublist (List.filter_sublist.map _)⟩
  rcases h.cover x hx with h1 | ⟨y, hy, h1, h2⟩
  · exact .inl h1
  · by_cases hg : tick < y.till + s
    · exact .inr ⟨y, List.mem_filter.2 ⟨hy, by simp [goesE, stands, hg]⟩, h1, h2⟩
    · exact .inl (by omega)
theorem Inv.tills (h : Inv ms G s tick) : Tills ms := fun p hp => by
  have := h.bnd _ (h.mem p hp)
  omega
theorem Inv.was (h : Inv ms G s tick) (k : K3) : 0 ≤ (wasOf k ms).till ∧ (wasOf k ms).till ≤ 10000 := by
  unfold wasOf getT
  cases hf : ms.find? (fun p => decide (p.1 = k)) with
  | none => exact ⟨by decide, by decide⟩
  | some q =>
    have h1 := h.bnd _ (h.mem q (List.mem_of_find?_eq_some hf))
    exact ⟨h1.2.2.1, h1.2.2.2⟩
theorem Inv.final (h : Inv ms G s tick) (epoch : Int) (x : Ls) (hx : x ∈ G) (hn : x.node ∉ nodesOf epoch s tick ms) (he : x.epoch < epoch) (ht : tick < x.till + s) : ∃ y ∈ G, y.node = x.node ∧ y.version = x.version ∧ y.fn = x.fn ∧ x.epoch < y.epoch := by
  rcases h.cover x hx with h1 | ⟨y, hy, h1, h2⟩
  · omega
  · have hk := h.keyed _ hy
    have hk' : x.key = y.key := hk
    unfold Ls.key at hk'
    simp only [Prod.mk.injEq] at hk'
    refine ⟨y, h.mem _ hy, hk'.1.symm, hk'.2.1.symm, hk'.2.2.symm, ?_⟩
    by_cases hle : y.epoch < epoch
    · exfalso
      apply hn
      unfold nodesOf
      exact List.mem_map.2 ⟨(x.key, y), List.mem_filter.2 ⟨hy, by simp [holdB, stands]; omega⟩, hk'.1.symm⟩
    · omega
end
theorem mem_compact : ∀ (zs : List Int) (z : Int), z ∈ compactL zs ↔ z ∈ zs
  | [], z => Iff.rfl
  | x :: r, z => by
    have aux : ∀ (r : List Int) (p : Int), z ∈ cmp p r ∨ z = p ↔ z ∈ r ∨ z = p := by
      intro r
      induction r with
      | nil => intro p; exact Iff.rfl
      | cons y r ih =>
        intro p
        rw [cmp]
        split
        · rename_i e
          subst e
          rw [ih]
          simp [or_comm, or_assoc]
        · have := ih y
          simp only [List.mem_cons]
          constructor
          · rintro ((rfl | h) | rfl)
            · exact .inl (.inl rfl)
            · rcases this.1 (.inl h) with h | h
              · exact .inl (.inr h)
              · exact .inl (.inl h)
            · exact .inr rfl
          · rintro ((rfl | h) | rfl)
            · exact .inl (.inl rfl)
            · rcases this.2 (.inl h) with h | h
              · exact .inl (.inr h)
              · exact .inl (.inl h)
            · exact .inr rfl
    have := aux r x
    show z ∈ x :: cmp x r ↔ _
    simp only [List.mem_cons]
    rw [or_comm, this, or_comm]
theorem mem_holders (epoch s tick : Int) (ms : List (K3 × Ls)) (z : Int) : z ∈ holdersL epoch s tick ms ↔ z ∈ nodesOf epoch s tick ms := by
  unfold holdersL
  rw [mem_compact]
  unfold sorted
  exact (List.mergeSort_perm _ _).mem_iff
/-! ## rows of leases -/
def lcells (l : List Ls) : List Value := rows (fun x : Ls => x.cells.toList) l
theorem lc_len (x : Ls) : x.cells.toList.length = 5 := rfl
theorem lc_one (x : Ls) : ∀ u ∈ x.cells.toList, u.oneCell' = true := by
  intro u hu
  simp [Ls.cells] at hu
  rcases hu with rfl | rfl | rfl | rfl | rfl <;> rfl
theorem infoL : (Try.prog.info? 30).map (fun i => (i.zero, i.size, i.bytes)) = some (some zeroL, 5, 40) := by kernel_rfl
theorem Rd.lease (w : World) (x : Ls) : Rd 5 (w.alloc (.cells x.cells 30)) (.slice (some ⟨w.heap.size, 0, none⟩) 1 1) 1 x.cells.toList := by
  refine ⟨some ⟨w.heap.size, 0, none⟩, 1, rfl, by omega, rfl, fun _ => ⟨w.heap.size, 0, rfl, by simp, fun j u hu => ?_⟩⟩
  have h := (Blk.new w 30 x.cells).cell j
  rw [Nat.zero_add, h]
  simpa using hu
theorem lease_at {w : World} {g n c : Nat} {l : List Ls} (h : Own 30 5 w (.slice (some ⟨g, 0, none⟩) n c) n (lcells l)) {i : Nat} {x : Ls} (hx : l[i]? = some x) :
    w.cell? ⟨g, i * 5, none⟩ = some (.int .i64 x.node) ∧ w.cell? ⟨g, i * 5 + 1, none⟩ = some (.int .i64 x.version) ∧ w.cell? ⟨g, i * 5 + 2, none⟩ = some (.int .i64 x.fn) ∧ w.cell? ⟨g, i * 5 + 3, none⟩ = some (.int .i64 x.epoch) ∧ w.cell? ⟨g, i * 5 + 4, none⟩ = some (.int .i64 x.till) :=
  ⟨Own.cells h (g := g) rfl _ _ (rows_get lc_len hx 0 (by omega)), Own.cells h (g := g) rfl _ _ (rows_get lc_len hx 1 (by omega)), Own.cells h (g := g) rfl _ _ (rows_get lc_len hx 2 (by omega)), Own.cells h (g := g) rfl _ _ (rows_get lc_len hx 3 (by omega)), Own.cells h (g := g) rfl _ _ (rows_get lc_len hx 4 (by omega))⟩
def later (x y : Ls) : Bool := (y.node == x.node) && ((y.version == x.version) && ((y.fn == x.fn) && decide (x.epoch < y.epoch)))
set_option maxRecDepth 100000 in
set_option maxHeartbeats 2000000 in
theorem renewed_c (w : World) (v : Value) (G : List Ls) (x : Ls) (h : Own 30 5 w v G.length (lcells G)) (hl : G.length ≤ 1000000) :
    Calls Try.prog 18 #[v, x.val] w fun e w' => e = .returned (.bool (G.any (later x))) ∧ Fr No w w' := by
  have H := hid h
  obtain ⟨A, c, rfl, hc, _⟩ := h.slice
  obtain ⟨a0, a1, a2, a3, a4⟩ := x
  clear h
  unfold Ls.val Ls.cells
  dsimp only
  have HB := hid (Blk.new w 30 #[.int .i64 a0, .int .i64 a1, .int .i64 a2, .int .i64 a3, .int .i64 a4])
  go_enter Try.func18, Try.ntmps18
  go_wp2_with fail
  go_loopg [9] G.length (fun q v9 w' => ∃ i : Nat, v9 = .int .i64 i ∧ i ≤ G.length ∧ q = G.length - i ∧ Hid (Blk w' w.heap.size 30 #[.int .i64 a0, .int .i64 a1, .int .i64 a2, .int .i64 a3, .int .i64 a4]) ∧ Hid (Fr No w w') ∧ Hid ((G.take i).any (later ⟨a0, a1, a2, a3, a4⟩) = false))
  case atStart => exact ⟨0, rfl, by omega, rfl, HB, (Fr.refl No w).alloc _, rfl⟩
  case round =>
    clear HB
    obtain ⟨i, rfl, hi, hq, HB, HF, HA⟩ := hrel
    have HQ := hid hq
    clear hq
    by_cases d1 : i < G.length
    · have d2 : (i : Int) < G.length := by omega
      have hx : G[i]? = some G[i] := List.getElem?_eq_getElem d1
      obtain ⟨g, rfl⟩ : ∃ g, A = some ⟨g, 0, none⟩ := by
        rcases H.out.2 with ⟨h0, h1⟩ | ⟨g', cap, cur, hv, _⟩
        · omega
        · injection hv with hv _ _
          exact ⟨g', hv⟩
      generalize G[i] = y at hx
      have HX := hid hx
      obtain ⟨k0, k1, k2, k3, k4⟩ := lease_at (H.out.keep HF.out (fun k _ => not_no k)) hx
      obtain ⟨b0, b1, b2, b3, b4⟩ := y
      dsimp only at k0 k1 k2 k3 k4
      clear hx
      have c0 := (HB.out.alloc (.cells #[.int .i64 b0, .int .i64 b1, .int .i64 b2, .int .i64 b3, .int .i64 b4] 30)).cell 0
      have c1' := (HB.out.alloc (.cells #[.int .i64 b0, .int .i64 b1, .int .i64 b2, .int .i64 b3, .int .i64 b4] 30)).cell 1
      have c2 := (HB.out.alloc (.cells #[.int .i64 b0, .int .i64 b1, .int .i64 b2, .int .i64 b3, .int .i64 b4] 30)).cell 2
      have c3 := (HB.out.alloc (.cells #[.int .i64 b0, .int .i64 b1, .int .i64 b2, .int .i64 b3, .int .i64 b4] 30)).cell 3
      have HBN := hid (HB.out.alloc (.cells #[.int .i64 b0, .int .i64 b1, .int .i64 b2, .int .i64 b3, .int .i64 b4] 30))
      have HFN := hid (HF.out.alloc (.cells #[.int .i64 b0, .int .i64 b1, .int .i64 b2, .int .i64 b3, .int .i64 b4] 30))
      have hstep : (G.take (i + 1)).any (later ⟨a0, a1, a2, a3, a4⟩) = later ⟨a0, a1, a2, a3, a4⟩ ⟨b0, b1, b2, b3, b4⟩ := by
        rw [List.take_add_one, HX.out, List.any_append, HA.out]
        simp
      have HST := hid hstep
      clear hstep
      cases hlt : later ⟨a0, a1, a2, a3, a4⟩ ⟨b0, b1, b2, b3, b4⟩ with
      | true =>
        have HTR := hid (show G.any (later ⟨a0, a1, a2, a3, a4⟩) = true from List.any_eq_true.2 ⟨_, List.mem_of_getElem? HX.out, hlt⟩)
        unfold later at hlt
        simp only [Bool.and_eq_true, beq_iff_eq, decide_eq_true_eq] at hlt
        obtain ⟨e0, e1, e2, e3⟩ := hlt
        subst e0 e1 e2
        go_wp2_with fail
        go_ret
        refine ⟨?_, HFN.out⟩
        rw [HTR.out]
        rfl
      | false =>
        have HFA := hid hlt
        have hcs : (b0 == a0) = false ∨ (b0 = a0 ∧ ((b1 == a1) = false ∨ (b1 = a1 ∧ ((b2 == a2) = false ∨ (b2 = a2 ∧ ¬ a3 < b3))))) := by
          unfold later at hlt
          by_cases e0 : b0 = a0 <;> by_cases e1 : b1 = a1 <;> by_cases e2 : b2 = a2 <;> simp_all
        clear hlt
        have HN := hid (show (G.take (i + 1)).any (later ⟨a0, a1, a2, a3, a4⟩) = false from HST.out.trans HFA.out)
        rcases hcs with e0 | ⟨e0, e1 | ⟨e1, e2 | ⟨e2, e3⟩⟩⟩
        all_goals
          (try subst e0)
          (try subst e1)
          (try subst e2)
          go_wp2_with fail
          go_roundg (G.length - (i + 1))
          case measure => have := HQ.out; omega
          case rel => exact ⟨i + 1, by go_num, by omega, rfl, HBN, HFN, HN⟩
    · have d2 : ¬ (i : Int) < G.length := by omega
      have HE := hid (show G.any (later ⟨a0, a1, a2, a3, a4⟩) = false by
        have := HA.out
        rwa [List.take_of_length_le (by omega)] at this)
      go_wp2_with fail
      go_ret
      refine ⟨?_, HF.out⟩
      rw [HE.out]
      rfl
end Go.Proofs.Ythcebkbedfaoeaa
