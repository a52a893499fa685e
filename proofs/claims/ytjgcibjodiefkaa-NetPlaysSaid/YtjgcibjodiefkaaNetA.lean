import Derived.Test.YtjgcibjodiefkaaLowN
import Derived.Test.YtjgcibjodiefkaaMem
import Derived.Deep.RegionLaw
import Derived.BigRegion
/-! A net: what stands where; the contracts of what reads it. -/
namespace Go.Proofs.Ytjgcibjodiefkaa
open Go.RowKit
set_option linter.unusedVariables false
set_option linter.unusedSimpArgs false

/-- a datagram, as the chapter has it: from, to, the bytes -/
abbrev G3 := Int × Int × List UInt8
/-- a datagram on its way: it and where its bytes stand -/
structure Gr where
  a : Int
  z : Int
  v : Value
  b : List UInt8
def Gr.cells (p : Gr) : List Value := [.int .i64 p.a, .int .i64 p.z, p.v]
def Gr.abs (p : Gr) : G3 := (p.a, p.z, p.b)
theorem Gr.cells_length (p : Gr) : p.cells.length = 3 := rfl

structure IsNet (w : World) (g : Nat) (A : Value) (nodes : Int) (l : List Gr) : Prop where
  blk : Blk w g 53 #[.int .i64 nodes, A]
  row : Own 29 3 w A l.length (rows Gr.cells l)
  data : ∀ p ∈ l, OwnB 5 w p.v p.b
  n1 : 1 ≤ nodes
  n2 : nodes ≤ 16
  len : l.length ≤ 4096
  ok : ∀ p ∈ l, 0 ≤ p.a ∧ p.a < nodes ∧ 0 ≤ p.z ∧ p.z < nodes ∧ p.b.length ≤ 1048640
/-- where a net stands -/
def Its (g : Nat) (A : Value) (l : List Gr) (k : Nat) : Prop := k = g ∨ Of A k ∨ ∃ p ∈ l, Of p.v k
/-- a net of L, its memory within F -/
structure IsN (w : World) (g : Nat) (F : Nat → Prop) (nodes : Int) (L : List G3) : Prop where
  ex : ∃ A l, IsNet w g A nodes l ∧ l.map Gr.abs = L ∧ ∀ k, Its g A l k → F k
  lt : ∀ k, F k → k < w.heap.size

section
variable {w w' : World} {g : Nat} {A : Value} {nodes : Int} {l : List Gr} {S : Nat → Prop}
theorem IsNet.one (h : IsNet w g A nodes l) : ∀ u ∈ rows Gr.cells l, u.oneCell' = true := by
  intro u hu
  simp only [rows, List.mem_flatten, List.mem_map] at hu
  obtain ⟨r, ⟨p, hp, rfl⟩, hu⟩ := hu
  simp only [Gr.cells, List.mem_cons, List.not_mem_nil, or_false] at hu
  rcases hu with rfl | rfl | rfl
  · rfl
  · rfl
  · obtain ⟨A', c', e, _⟩ := (h.data p hp).slice
    rw [e]
    rfl
theorem IsNet.its_lt (h : IsNet w g A nodes l) {k : Nat} (hk : Its g A l k) : k < w.heap.size := by
  rcases hk with rfl | hk | ⟨p, hp, hk⟩
  · exact h.blk.lt
  · exact h.row.lt k hk
  · exact (h.data p hp).lt k hk
theorem IsNet.keep (h : IsNet w g A nodes l) (hf : Fr S w w') (hS : ∀ k, Its g A l k → ¬ S k) : IsNet w' g A nodes l :=
  ⟨h.blk.keep hf (hS g (.inl rfl)), h.row.keep hf (fun k hk => hS k (.inr (.inl hk))), fun p hp => (h.data p hp).keep hf (fun k hk => hS k (.inr (.inr ⟨p, hp, hk⟩))), h.n1, h.n2, h.len, h.ok⟩
theorem IsN.keep {F : Nat → Prop} {L : List G3} (h : IsN w g F nodes L) (hf : Fr S w w') (hS : ∀ k, F k → ¬ S k) : IsN w' g F nodes L := by
  obtain ⟨A, l, h1, h2, h3⟩ := h.ex
  exact ⟨⟨A, l, h1.keep hf (fun k hk => hS k (h3 k hk)), h2, h3⟩, fun k hk => Nat.lt_of_lt_of_le (h.lt k hk) hf.size⟩
theorem IsN.keep_no {F : Nat → Prop} {L : List G3} (h : IsN w g F nodes L) (hf : Fr No w w') : IsN w' g F nodes L := h.keep hf (fun k _ => not_no k)
theorem IsNet.isN (h : IsNet w g A nodes l) {F : Nat → Prop} {L : List G3} (hl : l.map Gr.abs = L) (hF : ∀ k, Its g A l k → F k) (hlt : ∀ k, F k → k < w.heap.size) : IsN w g F nodes L := ⟨⟨A, l, h, hl, hF⟩, hlt⟩
theorem IsNet.c0 (h : IsNet w g A nodes l) : w.cell? ⟨g, 0, none⟩ = some (.int .i64 nodes) := h.blk.cell 0
theorem IsNet.c1 (h : IsNet w g A nodes l) : w.cell? ⟨g, 1, none⟩ = some A := h.blk.cell 1
/-- the i-th datagram's cells -/
theorem IsNet.at_ (h : IsNet w g A nodes l) {i : Nat} (hi : i < l.length) : ∃ b c p A' c', A = .slice (some ⟨b, 0, none⟩) l.length c ∧ l.length ≤ c ∧ c ≤ maxLen ∧ l[i]? = some p ∧ p ∈ l ∧ p.v = .slice A' p.b.length c' ∧
    w.cell? ⟨b, i * 3, none⟩ = some (.int .i64 p.a) ∧ w.cell? ⟨b, i * 3 + 1, none⟩ = some (.int .i64 p.z) ∧ w.cell? ⟨b, i * 3 + 2, none⟩ = some (.slice A' p.b.length c') := by
  have hp : l[i]? = some l[i] := by simp [hi]
  have hm : l[i] ∈ l := List.getElem_mem hi
  generalize l[i] = p at hp hm
  obtain ⟨A', c', e, _⟩ := (h.data p hm).slice
  rcases h.row.2 with ⟨rfl, h0⟩ | ⟨b, cap, cur, rfl, hg, hn, hc, hs, ht⟩
  · omega
  · have hcell := Own.cells h.row (g := b) rfl
    refine ⟨b, cap, p, A', c', rfl, hn, hc, hp, hm, e, ?_, ?_, ?_⟩
    · exact hcell _ _ (rows_get Gr.cells_length hp 0 (by omega))
    · exact hcell _ _ (rows_get Gr.cells_length hp 1 (by omega))
    · rw [← e]; exact hcell _ _ (rows_get Gr.cells_length hp 2 (by omega))
end

set_option maxHeartbeats 400000 in
theorem none_nil (w : World) : Calls Try.prog 30 #[.pointer none] w fun e w' => e = .returned (.bool true) ∧ w' = w := by
  go_enter Try.func30, Try.ntmps30
  go_wp2
  go_ret
  exact ⟨rfl, rfl⟩
set_option maxHeartbeats 400000 in
theorem none_at (g : Nat) (n : Int) (w : World) (h : w.cell? ⟨g, 0, none⟩ = some (.int .i64 n)) : Calls Try.prog 30 #[.pointer (some ⟨g, 0, none⟩)] w fun e w' => e = .returned (.bool (n == 0)) ∧ w' = w := by
  go_enter Try.func30, Try.ntmps30
  go_wp2
  go_ret
  exact ⟨rfl, rfl⟩
theorem none_c {w : World} {g : Nat} {A : Value} {nodes : Int} {l : List Gr} (h : IsNet w g A nodes l) : Calls Try.prog 30 #[.pointer (some ⟨g, 0, none⟩)] w fun e w' => e = .returned (.bool false) ∧ w' = w :=
  (none_at g nodes w h.c0).mono fun _ _ hh => ⟨by rw [hh.1]; have := h.n1; rw [show (nodes == 0) = false by rw [beq_eq_false_iff_ne]; omega], hh.2⟩
set_option maxHeartbeats 400000 in
theorem node_c {w : World} {g : Nat} {A : Value} {nodes : Int} {l : List Gr} (h : IsNet w g A nodes l) (i : Int) (b : Bool) (hb : decide (0 ≤ i ∧ i < nodes) = b) :
    Calls Try.prog 31 #[.pointer (some ⟨g, 0, none⟩), .int .i64 i] w fun e w' => e = .returned (.bool b) ∧ w' = w := by
  subst hb
  have k0 := h.c0
  clear h
  by_cases c1 : 0 ≤ i
  · go_enter Try.func31, Try.ntmps31
    go_wp2
    go_ret
    exact ⟨by simp [c1], rfl⟩
  · go_enter Try.func31, Try.ntmps31
    go_wp2
    go_ret
    exact ⟨by simp; omega, rfl⟩

set_option maxHeartbeats 400000 in
theorem new_bad (n : Int) (h : n < 1 ∨ n > 16) (w : World) : Calls Try.prog 10 #[.int .i64 n] w fun e w' => e = .returned (.tuple #[.pointer none, .int .i64 2]) ∧ w' = w := by
  rcases h with h | h
  · go_enter Try.func10, Try.ntmps10
    go_wp2
    go_ret2
    exact ⟨rfl, rfl⟩
  · have h2 : ¬ n < 1 := by omega
    go_enter Try.func10, Try.ntmps10
    go_wp2
    go_ret2
    exact ⟨rfl, rfl⟩
def RetNew (w : World) (n : Int) : Ending → World → Prop := fun e w' => ∃ g, e = .returned (.tuple #[.pointer (some ⟨g, 0, none⟩), .int .i64 0]) ∧ IsN w' g (fun k => k = g) n [] ∧ Fr No w w' ∧ w.heap.size ≤ g
set_option maxHeartbeats 400000 in
theorem new_c (n : Int) (h0 : 1 ≤ n) (h1 : n ≤ 16) (w : World) : Calls Try.prog 10 #[.int .i64 n] w (RetNew w n) := by
  go_enter Try.func10, Try.ntmps10
  go_wp2
  go_ret2
  refine ⟨_, rfl, IsNet.isN (l := []) (A := .slice none 0 0) ⟨Blk.new w _ _, Own.nil _ _ _, by simp, h0, h1, by simp, by simp⟩ rfl ?_ ?_, (Fr.refl No w).alloc _, Nat.le_refl _⟩
  · rintro k (rfl | hk | ⟨p, hp, _⟩)
    · rfl
    · exact absurd hk Of_none
    · cases hp
  · rintro k rfl
    simp

theorem Blk.three {w : World} {g : Nat} {t : TypeId} {a b c : Value} (h : Blk w g t #[a, b, c]) :
    w.cell? ⟨g, 0, none⟩ = some a ∧ w.cell? ⟨g, 1, none⟩ = some b ∧ w.cell? ⟨g, 2, none⟩ = some c ∧ ∀ i, w.frozen? ⟨g, i, none⟩ = false := ⟨h.cell 0, h.cell 1, h.cell 2, h.frozen⟩
theorem Blk.new_ (w : World) (t : TypeId) (cs : Array Value) (g : Nat) (hg : g = w.heap.size) : Blk (w.alloc (.cells cs t)) g t cs := by subst hg; exact Blk.new w t cs

/-! ## what reads -/
set_option maxHeartbeats 400000 in
theorem flying_c {w : World} {g : Nat} {F : Nat → Prop} {nodes : Int} {L : List G3} (h : IsN w g F nodes L) : Calls Try.prog 16 #[.pointer (some ⟨g, 0, none⟩)] w fun e w' => e = .returned (.int .i64 L.length) ∧ w' = w := by
  obtain ⟨A, l, h1, rfl, hF⟩ := h.ex
  obtain ⟨Aa, c, rfl, hc, hm⟩ := h1.row.slice
  have H := hid h1
  have k1 := h1.c1
  clear h1 h hF
  go_enter Try.func16, Try.ntmps16
  go_wp2_with (first
      | (go_at_call 30; refine (none_c H.out).mono ?_; rintro e w1 ⟨rfl, rfl⟩))
  go_ret
  exact ⟨by simp, rfl⟩

/-- what Look tells -/
def lookL (L : List G3) (i : Int) : G3 × Bool := if 0 ≤ i ∧ i < L.length then (L.getD i.toNat (0, 0, []), true) else ((0, 0, []), false)
/-- a datagram with bytes of its own, and whether there was one -/
def RetG (w : World) (r : G3 × Bool) : Ending → World → Prop := fun e w' => ∃ v, e = .returned (.tuple #[.agg #[.int .i64 r.1.1, .int .i64 r.1.2.1, v], .bool r.2]) ∧ OwnB 5 w' v r.1.2.2 ∧ Fr No w w' ∧ Grows w No v

set_option maxHeartbeats 1000000 in
theorem look_c {w : World} {g : Nat} {F : Nat → Prop} {nodes : Int} {L : List G3} (h : IsN w g F nodes L) (i : Int) (r : G3 × Bool) (hr : lookL L i = r) :
    Calls Try.prog 12 #[.pointer (some ⟨g, 0, none⟩), .int .i64 i] w (RetG w r) := by
  obtain ⟨A, l, h1, rfl, hF⟩ := h.ex
  subst hr
  unfold lookL
  simp only [List.length_map]
  by_cases c1 : 0 ≤ i ∧ i < l.length
  · rw [if_pos c1]
    obtain ⟨i, rfl⟩ := Int.eq_ofNat_of_zero_le c1.1
    have c2 : i < l.length := by have := c1.2; omega
    have h2 := h1.keep ((Fr.refl No w).alloc (.cells #[.int .i64 0, .int .i64 0, .slice none 0 0] 29)) (fun k _ => not_no k)
    obtain ⟨b, c, p, A', c', rfl, hc, hm, hp, hpm, hv, k3, k4, k5⟩ := h2.at_ c2
    have e1 : (l.map Gr.abs).getD ((i : Int)).toNat (0, 0, []) = p.abs := by simp [List.getD, hp]
    rw [e1]
    have H := hid h2
    have HD := hid (h2.data p hpm)
    have hbl := (h2.ok p hpm).2.2.2.2
    have HV := hid hv
    have k1 := h2.c1
    clear h1 h hF e1 hv h2
    go_enter Try.func12, Try.ntmps12
    go_wp2_with (first
      | (go_at_call 30; refine (none_c H.out).mono ?_; rintro e w1 ⟨rfl, rfl⟩))
    refine (clone_c _ p.b _ ?_ (by omega)).mono ?_
    · rw [← HV.out]
      exact HD.out.rd.alloc _
    rintro e w3 ⟨v3, rfl, O3, F3, G3⟩
    have D1 := hid (((Blk.new w 29 #[.int .i64 0, .int .i64 0, .slice none 0 0]).alloc (.cells #[.int .i64 p.a, .int .i64 p.z, .slice A' p.b.length c'] 29)).keep F3 (not_no _))
    have D2 := hid ((Blk.new_ (w.alloc (.cells #[.int .i64 0, .int .i64 0, .slice none 0 0] 29)) 29 #[.int .i64 p.a, .int .i64 p.z, .slice A' p.b.length c'] (w.heap.size + 1) (by simp)).keep F3 (not_no _))
    obtain ⟨a0, a1, a2, af⟩ := D1.out.three
    obtain ⟨b0, b1, b2, bf⟩ := D2.out.three
    obtain ⟨A3, c3, rfl, hc3⟩ := O3.slice
    have HO3 := hid O3
    have HF3 := hid F3
    have HG3 := hid G3
    clear O3 F3 G3 k1 k3 k4 k5
    go_wp2_with fail
    refine ⟨rfl, ?_⟩
    refine ⟨.tuple #[.agg #[.int .i64 p.a, .int .i64 p.z, .slice A3 p.b.length c3], .bool true], ?_, ?_⟩
    · have hres : Try.f12.results = #[.cell 4 29, .tmp 5] := rfl
      simp [results, hres, asAddr]
      try go_simp
    · refine ⟨_, rfl, ?_, ?_, ?_⟩
      · refine HO3.out.keep (S := fun k => k = w.heap.size ∨ k = w.heap.size + 1) (Fr.setCell (Fr.setCell (Fr.setCell (Fr.setCell (Fr.refl _ w3) ?_ _) ?_ _) ?_ _) ?_ _) ?_
        · exact fun _ => .inr rfl
        · exact fun _ => .inl rfl
        · exact fun _ => .inl rfl
        · exact fun _ => .inl rfl
        rintro k hk (rfl | rfl)
        · exact HO3.out.ne_ D1.out (by decide) hk
        · exact HO3.out.ne_ D2.out (by decide) hk
      · refine Fr.setCell (Fr.setCell (Fr.setCell (Fr.setCell ((((Fr.refl No w).alloc _).alloc _).fresh_no HF3.out) ?_ _) ?_ _) ?_ _) ?_ _ <;> (intro h; simp at h)
        omega
      · intro k hk
        rcases HG3.out k hk with h | h
        · exact .inl h
        · simp at h
          exact .inr (by omega)
  · rw [if_neg c1]
    have hz : Fr No w (w.alloc (.cells #[.int .i64 0, .int .i64 0, .slice none 0 0] 29)) := (Fr.refl No w).alloc _
    have h2 := h1.keep hz (fun k _ => not_no k)
    obtain ⟨Aa, c, rfl, hc, hm⟩ := h2.row.slice
    have H := hid h2
    have k1 := h2.c1
    have B := Blk.new w 29 #[.int .i64 0, .int .i64 0, .slice none 0 0]
    clear h1 h hF h2 hz
    by_cases c2 : i < 0
    · have d1 : decide (i < 0) = true := by simpa using c2
      go_enter Try.func12, Try.ntmps12
      go_wp2_with (first
        | (go_at_call 30; refine (none_c H.out).mono ?_; rintro e w1 ⟨rfl, rfl⟩))
      refine ⟨rfl, ?_⟩
      refine ⟨.tuple #[.agg #[.int .i64 0, .int .i64 0, .slice none 0 0], .bool false], ?_, ?_⟩
      · have hres : Try.f12.results = #[.cell 4 29, .tmp 5] := rfl
        simp [results, hres, asAddr]
        try go_simp
      · exact ⟨_, rfl, OwnB.nil _ _, (Fr.refl No w).alloc _, grows_nil w⟩
    · have d1 : decide (i < 0) = false := by simpa using c2
      have d2 : (l.length : Int) ≤ i := by omega
      have d3 : decide ((l.length : Int) ≤ i) = true := by simpa using d2
      go_enter Try.func12, Try.ntmps12
      go_wp2_with (first
        | (go_at_call 30; refine (none_c H.out).mono ?_; rintro e w1 ⟨rfl, rfl⟩))
      refine ⟨rfl, ?_⟩
      refine ⟨.tuple #[.agg #[.int .i64 0, .int .i64 0, .slice none 0 0], .bool false], ?_, ?_⟩
      · have hres : Try.f12.results = #[.cell 4 29, .tmp 5] := rfl
        simp [results, hres, asAddr]
        try go_simp
      · exact ⟨_, rfl, OwnB.nil _ _, (Fr.refl No w).alloc _, grows_nil w⟩
end Go.Proofs.Ytjgcibjodiefkaa
