import Derived.Test.YtkglndlmjleomaaBoxI
/-! The boxes, with what is theirs: a contract for each function. -/
namespace Go.Proofs.Ytkglndlmjleomaa
open Go.RowKit
set_option linter.unusedVariables false
set_option linter.unusedSimpArgs false

/-- boxes of n at g; of each actor k what waits is f k; S: the blocks that are theirs -/
def Bx (w : World) (g : Nat) (n : Int) (f : Int → List MailA) (S : Nat → Prop) : Prop := ∃ b ms, IsBox w g b n ms f ∧ S = owns g b ms
section
variable {w w1 : World} {g : Nat} {n : Int} {f : Int → List MailA} {S T : Nat → Prop}
theorem Bx.keep (h : Bx w g n f S) (hf : Fr T w w1) (hS : ∀ x, S x → ¬ T x) : Bx w1 g n f S := by
  obtain ⟨b, ms, h, rfl⟩ := h
  exact ⟨b, ms, h.keep_ hf hS, rfl⟩
theorem Bx.keep0 (h : Bx w g n f S) (hf : Fr No w w1) : Bx w1 g n f S := h.keep hf (fun x _ => not_no x)
theorem Bx.lt (h : Bx w g n f S) : ∀ x, S x → x < w.heap.size := by
  obtain ⟨b, ms, h, rfl⟩ := h
  exact h.lt
theorem Bx.blk (h : Bx w g n f S) : ∃ b, Blk w g 61 #[.int .i64 n, .map (some b)] := by
  obtain ⟨b, ms, h, rfl⟩ := h
  exact ⟨b, h.blk⟩
def More (w : World) (S S' : Nat → Prop) : Prop := ∀ x, S' x → S x ∨ w.heap.size ≤ x
theorem new_b (w : World) (n : Int) (h1 : 1 ≤ n) (h2 : n ≤ 64) : Calls Try.prog 9 #[.int .i64 n] w fun e w' => ∃ g S, e = .returned (.tuple #[.pointer (some ⟨g, 0, none⟩), .int .i64 0]) ∧ Bx w' g n (fun _ => []) S ∧ Fr No w w' ∧ ∀ x, S x → w.heap.size ≤ x := by
  refine (new_c w n h1 h2).mono ?_
  rintro e w' ⟨g, b, he, hb, hm, hf, l1, l2⟩
  refine ⟨g, _, he, ⟨b, [], IsBox.start hb hm, rfl⟩, hf, fun x hx => ?_⟩
  rcases hx with rfl | rfl | ⟨k, hk⟩
  · exact l2
  · exact l1
  · exact absurd hk Of_none
def addF (f : Int → List MailA) (m : MailA) : Int → List MailA := fun k => if k = m.to then f m.to ++ [m] else f k
theorem put_b (h : Bx w g n f S) (m : MailA) (ht : m.tag.size ≤ 255) (hf : (f m.to).length < n) (hn : n ≤ 64) :
    Calls Try.prog 13 #[.pointer (some ⟨g, 0, none⟩), .agg m.cells] w fun e w' => ∃ S', e = .returned (.int .i64 0) ∧ Bx w' g n (addF f m) S' ∧ Fr S w w' ∧ More w S S' := by
  obtain ⟨b, ms, h, rfl⟩ := h
  refine (put_room h m ht hf hn).mono ?_
  rintro e w' ⟨v, he, hb, hfr, hv⟩
  refine ⟨_, he, ⟨b, _, hb, rfl⟩, hfr.mono (fun x _ hx => hx.elim (fun hx => .inr (.inr ⟨_, hx⟩)) (fun hx => .inr (.inl hx))), fun x hx => ?_⟩
  rcases hx with rfl | rfl | ⟨k, hk⟩
  · exact .inl (.inl rfl)
  · exact .inl (.inr (.inl rfl))
  · by_cases e : k = m.to
    · subst e
      rw [rowOf_put_same _ _ h.map.nodup] at hk
      exact (hv x hk).imp (fun hx => .inr (.inr ⟨_, hx⟩)) id
    · rw [rowOf_put_other _ e] at hk
      exact .inl (.inr (.inr ⟨k, hk⟩))
theorem full_b (h : Bx w g n f S) (m : MailA) (ht : m.tag.size ≤ 255) (hf : n ≤ (f m.to).length) :
    Calls Try.prog 13 #[.pointer (some ⟨g, 0, none⟩), .agg m.cells] w fun e w' => e = .returned (.int .i64 141) ∧ Fr No w w' := by
  obtain ⟨b, ms, h, rfl⟩ := h
  exact put_full h m ht hf
def setF (f : Int → List MailA) (k : Int) (l : List MailA) : Int → List MailA := fun x => if x = k then l else f x
theorem take_b (h : Bx w g n f S) (to : Int) (m : MailA) (l : List MailA) (h0 : f to = m :: l) (hn : l.length < 64) :
    Calls Try.prog 11 #[.pointer (some ⟨g, 0, none⟩), .int .i64 to] w fun e w' => ∃ S', e = .returned (.tuple #[.agg m.cells, .bool true]) ∧ Bx w' g n (setF f to l) S' ∧ Fr S w w' ∧ More w S S' := by
  obtain ⟨b, ms, h, rfl⟩ := h
  refine (take_some h to m l h0 hn).mono ?_
  rintro e w' ⟨he, ms', hb, hfr, hv⟩
  exact ⟨_, he, ⟨b, _, hb, rfl⟩, hfr.mono (fun x _ hx => .inr (.inl hx)), hv⟩
theorem none_b (h : Bx w g n f S) (to : Int) (h0 : f to = []) :
    Calls Try.prog 11 #[.pointer (some ⟨g, 0, none⟩), .int .i64 to] w fun e w' => e = .returned (.tuple #[mail0, .bool false]) ∧ Fr No w w' := by
  obtain ⟨b, ms, h, rfl⟩ := h
  exact take_nobody h to h0
theorem len_b (h : Bx w g n f S) (to : Int) : Calls Try.prog 14 #[.pointer (some ⟨g, 0, none⟩), .int .i64 to] w fun e w' => e = .returned (.int .i64 (f to).length) ∧ w' = w := by
  obtain ⟨b, ms, h, rfl⟩ := h
  exact h.len_c to
theorem look_b (h : Bx w g n f S) (to : Int) (m : MailA) (l : List MailA) (h0 : f to = m :: l) :
    Calls Try.prog 20 #[.pointer (some ⟨g, 0, none⟩), .int .i64 to] w fun e w' => e = .returned (.tuple #[.agg m.cells, .bool true]) ∧ Fr No w w' := by
  obtain ⟨b, ms, h, rfl⟩ := h
  exact look_some h to m l h0
set_option maxRecDepth 100000 in
set_option maxHeartbeats 400000 in
theorem drop_some {b : Nat} {ms : List (Int × Value)} (h : IsBox w g b n ms f) (to : Int) :
    Calls Try.prog 16 #[.pointer (some ⟨g, 0, none⟩), .int .i64 to] w fun e w' => e = .returned (.int .i64 (f to).length) ∧ IsBox w' g b n (delM to ms) (setF f to []) ∧ Fr (fun x => x = b) w w' := by
  have H := hid h
  obtain ⟨w1, hdel, M1, F1⟩ := run_del (P := Try.prog) (T := 44) (K := 2) (E := 39) (ty := 0) Try.underlying44 Try.underlying2 h.map to
  have HZ := hid (h.gone to M1 F1 (rowOf_del_same to) (fun k' hk => rowOf_del_other hk) (fun k' => mem_del ms to k'))
  have HF := hid F1
  obtain ⟨c0, c1, cf⟩ := h.blk.pair
  clear h M1 F1
  go_enter Try.func16, Try.ntmps16
  go_wp2_with fail
  refine (H.out.len_c to).mono ?_
  rintro e wx ⟨rfl, rfl⟩
  go_wp2_with fail
  refine (right_yes H.out.blk).mono ?_
  rintro e wx ⟨rfl, rfl⟩
  go_wp2_with fail
  go_ret
  exact ⟨rfl, HZ.out, HF.out⟩
theorem drop_b (h : Bx w g n f S) (to : Int) :
    Calls Try.prog 16 #[.pointer (some ⟨g, 0, none⟩), .int .i64 to] w fun e w' => ∃ S', e = .returned (.int .i64 (f to).length) ∧ Bx w' g n (setF f to []) S' ∧ Fr S w w' ∧ More w S S' := by
  obtain ⟨b, ms, h, rfl⟩ := h
  refine (drop_some h to).mono ?_
  rintro e w' ⟨he, hb, hf⟩
  refine ⟨_, he, ⟨b, _, hb, rfl⟩, hf.mono (fun x _ hx => .inr (.inl hx)), fun x hx => .inl ?_⟩
  rcases hx with rfl | rfl | ⟨k, hk⟩
  · exact .inl rfl
  · exact .inr (.inl rfl)
  · by_cases e : k = to
    · subst e
      rw [rowOf_del_same] at hk
      exact absurd hk Of_none
    · rw [rowOf_del_other e] at hk
      exact .inr (.inr ⟨k, hk⟩)
end
set_option maxRecDepth 100000 in
set_option maxHeartbeats 400000 in
theorem pick_c (x n : Int) (h1 : -9223372036854775808 ≤ x) (h2 : x ≤ 9223372036854775807) (hn : 0 < n) (hn2 : n ≤ 4611686018427387904) (w : World) :
    Calls Try.prog 10 #[.int .i64 x, .int .i64 n] w fun en w' => en = .returned (.int .i64 (x % n)) ∧ w' = w := by
  have hm := Int.emod_nonneg x (show n ≠ 0 by omega)
  have hm2 := Int.emod_lt_of_pos x hn
  have ht : x.tmod n = x % n ∨ (x.tmod n = x % n - n ∧ 0 < x % n) := by
    rw [Int.tmod_eq_emod]
    by_cases h : 0 ≤ x ∨ n ∣ x
    · rw [if_pos h]; left; omega
    · rw [if_neg h]
      have : x % n ≠ 0 := fun e => h (.inr (Int.dvd_of_emod_eq_zero e))
      right; omega
  have HT := hid ht
  clear ht
  have d1 : ¬ n < 1 := by omega
  by_cases hneg : x.tmod n < 0
  · go_enter Try.func10, Try.ntmps10
    go_wp2
    go_ret
    refine ⟨congrArg (fun i => Ending.returned (.int .i64 i)) ?_, rfl⟩
    show wrap64 (x.tmod n + n) = x % n
    have := HT.out
    unfold wrap64
    omega
  · go_enter Try.func10, Try.ntmps10
    go_wp2
    go_ret
    refine ⟨congrArg (fun i => Ending.returned (.int .i64 i)) ?_, rfl⟩
    show x.tmod n = x % n
    have := HT.out
    omega
set_option maxRecDepth 100000 in
set_option maxHeartbeats 400000 in
theorem sameV_nil (w : World) : Calls Try.prog 29 #[.slice none 0 0, .slice none 0 0] w fun e w' => e = .returned (.bool true) ∧ w' = w := by
  go_enter Try.func29, Try.ntmps29
  go_wp2_with fail
  refine wp_loop_rounds 1 ?_
  unfold Code.rounds
  go_wp2_with fail
  go_ret
  exact ⟨rfl, rfl⟩
set_option maxRecDepth 100000 in
set_option maxHeartbeats 1000000 in
theorem same_m (w : World) (m : MailA) : Calls Try.prog 12 #[.agg m.cells, .agg m.cells] w fun e w' => e = .returned (.bool true) ∧ Fr No w w' := by
  obtain ⟨a, by0, c, d, t⟩ := m
  unfold MailA.cells
  go_enter Try.func12, Try.ntmps12
  go_wp2_with fail
  refine (sameV_nil _).mono ?_
  rintro e wx ⟨rfl, rfl⟩
  go_wp2_with fail
  go_ret
  exact ⟨rfl, ((Fr.refl No _).alloc _).alloc _⟩
end Go.Proofs.Ytkglndlmjleomaa
