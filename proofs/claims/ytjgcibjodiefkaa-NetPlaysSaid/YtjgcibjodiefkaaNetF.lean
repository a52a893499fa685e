import Derived.Test.YtjgcibjodiefkaaNetE
/-! The contracts of package net: Copy; a net that is new since w0; two datagrams held against each other; the chapter's examples. -/
namespace Go.Proofs.Ytjgcibjodiefkaa
open Go.RowKit
set_option linter.unusedVariables false
set_option linter.unusedSimpArgs false

theorem IsN.ok {w : World} {g : Nat} {F : Nat → Prop} {nodes : Int} {L : List G3} (h : IsN w g F nodes L) : ∀ p ∈ L, (0 ≤ p.1 ∧ p.1 < nodes) ∧ (0 ≤ p.2.1 ∧ p.2.1 < nodes) ∧ p.2.2.length ≤ 1048640 := by
  obtain ⟨A, l, h1, rfl, hF⟩ := h.ex
  intro p hp
  obtain ⟨q, hq, rfl⟩ := List.mem_map.1 hp
  obtain ⟨a, b, c, d, e⟩ := h1.ok q hq
  exact ⟨⟨a, b⟩, ⟨c, d⟩, e⟩
theorem lookL_mem {L : List G3} {i : Int} (h : (lookL L i).2 = true) : (lookL L i).1 ∈ L := by
  unfold lookL at *
  split at h
  · rename_i hc
    rw [if_pos hc]
    have : i.toNat < L.length := by omega
    simp [List.getD, this]
  · cases h
theorem RetSend.from {w w4 w' : World} {g : Nat} {F : Nat → Prop} {nodes : Int} {r : List G3 × Nat} {e : Ending} (hf : Fr No w w4) (h : RetSend w4 g F nodes r e w') : RetSend w g F nodes r e w' := by
  obtain ⟨h1, h2, h3⟩ := h
  refine ⟨h1, ?_, (hf.mono (fun k _ h => absurd h (not_no k))).trans h3 (fun _ _ h => h)⟩
  obtain ⟨A, l, a, b, c⟩ := h2.ex
  refine ⟨⟨A, l, a, b, fun k hk => ?_⟩, fun k hk => ?_⟩
  · rcases c k hk with h | h
    · exact .inl h
    · exact .inr ⟨Nat.le_trans hf.size h.1, h.2⟩
  · rcases hk with h | h
    · exact h2.lt k (.inl h)
    · exact h.2

/-- what Copy does -/
def copyL (nodes : Int) (L : List G3) (i : Int) : List G3 × Nat := if (lookL L i).2 then sendL nodes L (lookL L i).1.1 (lookL L i).1.2.1 (lookL L i).1.2.2 else (L, 2)

set_option maxRecDepth 100000 in
set_option maxHeartbeats 2000000 in
theorem ncopy_c {w : World} {g : Nat} {F : Nat → Prop} {nodes : Int} {L : List G3} (h : IsN w g F nodes L) (i : Int) (r : List G3 × Nat) (hr : copyL nodes L i = r) :
    Calls Try.prog 13 #[.pointer (some ⟨g, 0, none⟩), .int .i64 i] w (RetSend w g F nodes r) := by
  obtain ⟨A, l, h1, _, _⟩ := h.ex
  have H := hid h
  have k0 := h1.c0
  have hn : (nodes == 0) = false := by have := h1.n1; rw [beq_eq_false_iff_ne]; omega
  obtain ⟨⟨⟨ra, rz, rb⟩, rk⟩, hq⟩ : ∃ q, lookL L i = q := ⟨_, rfl⟩
  have HQ := hid hq
  cases rk with
  | true =>
    have HR := hid (show sendL nodes L ra rz rb = r by rw [← hr]; unfold copyL; rw [hq]; rfl)
    have hm := lookL_mem (L := L) (i := i) (by rw [hq])
    rw [hq] at hm
    have hb : rb.length ≤ 140737488355328 := by have := (h.ok _ hm).2.2; simp only at this; omega
    have HBB := hid hb
    clear h h1 hr hq hm hb
    go_enter Try.func13, Try.ntmps13
    go_wp2_with (first
      | (go_at_call 30; refine (none_at g nodes _ k0).mono ?_; rintro e w1 ⟨rfl, rfl⟩))
    refine (look_c H.out _ _ HQ.out).mono ?_
    rintro e w3 ⟨v3, rfl, O3, F3, G3⟩
    obtain ⟨A3, c3', rfl, hc3⟩ := O3.slice
    have F4 := hid (F3.alloc (.cells #[.int .i64 ra, .int .i64 rz, .slice A3 rb.length c3'] 29))
    have O4 := hid (O3.alloc (.cells #[.int .i64 ra, .int .i64 rz, .slice A3 rb.length c3'] 29))
    clear O3 F3 G3 k0
    go_wp2_with fail
    refine (send_c (H.out.keep_no F4.out) ra rz _ rb O4.out.rd HBB.out _ HR.out).mono ?_
    intro e w5 h5
    obtain ⟨he, h2, h3⟩ := h5.from F4.out
    subst he
    have H2 := hid h2
    have H3 := hid h3
    clear h5 h2 h3
    go_wp2_with fail
    go_ret
    exact ⟨rfl, H2.out, H3.out⟩
  | false =>
    have hr2 : r = (L, 2) := by rw [← hr]; unfold copyL; rw [hq]; rfl
    subst hr2
    clear h h1 hr hq
    go_enter Try.func13, Try.ntmps13
    go_wp2_with (first
      | (go_at_call 30; refine (none_at g nodes _ k0).mono ?_; rintro e w1 ⟨rfl, rfl⟩))
    refine (look_c H.out _ _ HQ.out).mono ?_
    rintro e w3 ⟨v3, rfl, O3, F3, G3⟩
    obtain ⟨A3, c3', rfl, hc3⟩ := O3.slice
    have F4 := hid (F3.alloc (.cells #[.int .i64 ra, .int .i64 rz, .slice A3 rb.length c3'] 29))
    clear O3 F3 G3 k0
    go_wp2_with fail
    go_ret
    obtain ⟨h1, h2, h3⟩ := RetSend.from (g := g) (F := F) (nodes := nodes) (r := (L, 2)) F4.out (e := .returned (.int .i64 2)) ⟨rfl, (H.out.keep_no F4.out).more, Fr.refl _ _⟩
    exact ⟨rfl, h2, h3⟩

/-! ## a net that is new since w0 -/
structure StN (w0 w : World) (g : Nat) (F : Nat → Prop) (nodes : Int) (L : List G3) : Prop where
  n : IsN w g F nodes L
  fr : Fr No w0 w
  new : ∀ k, F k → w0.heap.size ≤ k
section
variable {w0 w w1 w2 : World} {g : Nat} {F : Nat → Prop} {nodes : Int} {L L' : List G3}
theorem StN.keep (h : StN w0 w g F nodes L) (hf : Fr No w w1) : StN w0 w1 g F nodes L := ⟨h.n.keep_no hf, h.fr.fresh_no hf, h.new⟩
theorem StN.keepS {S : Nat → Prop} (h : StN w0 w g F nodes L) (hf : Fr S w w1) (h1 : ∀ k, F k → ¬ S k) (hs : ∀ k, S k → w0.heap.size ≤ k) : StN w0 w1 g F nodes L := ⟨h.n.keep hf h1, h.fr.fresh hf hs, h.new⟩
theorem StN.start {w1 : World} (h : IsN w1 g (fun k => k = g) nodes []) (hf : Fr No w0 w1) (hg : w0.heap.size ≤ g) : StN w0 w1 g (fun k => k = g) nodes [] := ⟨h, hf, fun k hk => hk ▸ hg⟩
/-- Send, Copy -/
theorem StN.send {r : List G3 × Nat} {e : Ending} (h : StN w0 w g F nodes L) (hf : Fr No w w1) (hr : RetSend w1 g F nodes r e w2) : e = .returned (.int .i64 r.2) ∧ StN w0 w2 g (More w w2 F) nodes r.1 ∧ Fr F w w2 := by
  obtain ⟨a, b, c⟩ := hr.from hf
  refine ⟨a, ⟨b, h.fr.fresh c h.new, fun k hk => ?_⟩, c⟩
  rcases hk with hk | hk
  · exact h.new k hk
  · exact Nat.le_trans h.fr.size hk.1
theorem StN.send' {r : List G3 × Nat} {e : Ending} (h : StN w0 w g F nodes L) (hf : Fr No w w1) (hr : RetSend w1 g F nodes r e w2) : ∃ F2, e = .returned (.int .i64 r.2) ∧ StN w0 w2 g F2 nodes r.1 ∧ Fr F w w2 ∧ ∀ k, F2 k → F k ∨ w.heap.size ≤ k :=
  ⟨_, (h.send hf hr).1, (h.send hf hr).2.1, (h.send hf hr).2.2, fun k hk => hk.imp id (·.1)⟩
/-- Take, Drop, Forget -/
theorem StN.same (h : StN w0 w g F nodes L) (hn : IsN w1 g F nodes L') (hf : Fr F w w1) : StN w0 w1 g F nodes L' := ⟨hn, h.fr.fresh hf h.new, h.new⟩
end

set_option maxRecDepth 100000 in
set_option maxHeartbeats 1000000 in
theorem same_g (w : World) (a z a' z' : Int) (v v' : Value) (b b' : List UInt8) (h : RdB w v b) (h' : RdB w v' b') (r : Bool) (hr : decide (((a, z, b) : G3) = (a', z', b')) = r) :
    Calls Try.prog 24 #[.agg #[.int .i64 a, .int .i64 z, v], .agg #[.int .i64 a', .int .i64 z', v']] w fun e w' => e = .returned (.bool r) ∧ Fr No w w' := by
  obtain ⟨A, c, rfl, hc⟩ := h.slice
  obtain ⟨A', c', rfl, hc'⟩ := h'.slice
  have H1 := hid ((h.alloc (.cells #[.int .i64 a, .int .i64 z, .slice A b.length c] 29)).alloc (.cells #[.int .i64 a', .int .i64 z', .slice A' b'.length c'] 29))
  have H2 := hid ((h'.alloc (.cells #[.int .i64 a, .int .i64 z, .slice A b.length c] 29)).alloc (.cells #[.int .i64 a', .int .i64 z', .slice A' b'.length c'] 29))
  have HR := hid hr
  clear h h' hr
  by_cases c1 : a = a'
  · have d1 : (a == a') = true := by simpa using c1
    by_cases c2 : z = z'
    · have d2 : (z == z') = true := by simpa using c2
      have HC := hid c1
      have HC2 := hid c2
      clear c1 c2
      go_enter Try.func24, Try.ntmps24
      go_wp2_with fail
      refine (same_c _ _ b b' _ H1.out H2.out).mono ?_
      rintro e wx ⟨rfl, rfl⟩
      go_wp2_with fail
      go_ret
      refine ⟨?_, ((Fr.refl No _).alloc _).alloc _⟩
      rw [← HR.out]
      simp [HC.out, HC2.out]
    · have d2 : (z == z') = false := by simpa using c2
      have HC := hid c1
      have HC2 := hid c2
      clear c1 c2
      go_enter Try.func24, Try.ntmps24
      go_wp2_with fail
      go_ret
      refine ⟨?_, ((Fr.refl No _).alloc _).alloc _⟩
      rw [← HR.out]
      simp [HC2.out]
  · have d1 : (a == a') = false := by simpa using c1
    have HC := hid c1
    clear c1
    go_enter Try.func24, Try.ntmps24
    go_wp2_with fail
    go_ret
    refine ⟨?_, ((Fr.refl No _).alloc _).alloc _⟩
    rw [← HR.out]
    simp [HC.out]

set_option maxRecDepth 100000 in
set_option maxHeartbeats 2000000 in
theorem awake_c (w : World) : Calls Try.prog 17 #[] w (RetT w) := by
  have kc := run_convert_const (P := Try.prog) 26 5 Try.underlying26 Try.underlying5
  go_enter Try.func17, Try.ntmps17
  go_wp2_with fail
  refine (new_c 2 (by omega) (by omega) _).mono ?_
  rintro e w1 ⟨g, rfl, I, F, hg⟩
  have S1 := hid (StN.start I F hg)
  clear I F hg
  go_wp2_with fail
  refine (send_c (S1.out.n.keep_no ((Fr.refl No _).alloc _)) 0 1 _ [97] (RdB.lit_ _ _ _ _ _ rfl rfl _ (by first | rfl | simp)) (by simp) ([(0, 1, [97])], 0) rfl).mono ?_
  intro e w2 hr
  obtain ⟨Fa, rfl, S', -, -⟩ := S1.out.send' ((Fr.refl No _).alloc _) hr
  have S2 := hid S'
  clear S' hr S1
  go_wp2_with fail
  refine (send_c (S2.out.n.keep_no ((Fr.refl No _).alloc _)) 1 0 _ [98] (RdB.lit_ _ _ _ _ _ rfl rfl _ (by first | rfl | simp)) (by simp) ([(0, 1, [97]), (1, 0, [98])], 0) rfl).mono ?_
  intro e w3 hr
  obtain ⟨Fb, rfl, S', -, -⟩ := S2.out.send' ((Fr.refl No _).alloc _) hr
  have S3 := hid S'
  clear S' hr S2
  go_wp2_with fail
  refine (flying_c S3.out.n).mono ?_
  rintro e wx ⟨rfl, rfl⟩
  go_wp2_with fail
  refine (ncopy_c S3.out.n 0 ([(0, 1, [97]), (1, 0, [98]), (0, 1, [97])], 0) rfl).mono ?_
  intro e w4 hr
  obtain ⟨F, rfl, S', -, -⟩ := S3.out.send' (Fr.refl No _) hr
  have S4 := hid S'
  clear S' hr S3
  go_wp2_with fail
  refine (look_c S4.out.n 2 ((0, 1, [97]), true) rfl).mono ?_
  rintro e w5 ⟨v5, rfl, O5, F5, G5⟩
  replace O5 : OwnB 5 w5 v5 [97] := O5
  obtain ⟨A5, c5, rfl, hc5⟩ := O5.slice
  have S5 := hid (S4.out.keep (F5.alloc (.cells #[.int .i64 0, .int .i64 1, .slice A5 1 c5] 29)))
  have O5' := hid (O5.alloc (.cells #[.int .i64 0, .int .i64 1, .slice A5 1 c5] 29))
  have D5 := hid (Blk.new w5 29 #[.int .i64 0, .int .i64 1, .slice A5 1 c5])
  have N5 := hid (show ¬ F w5.heap.size ∧ ∀ k, Of (.slice A5 1 c5) k → ¬ F k from ⟨fun h => by have := S4.out.n.lt _ h; have := F5.size; omega, fun k hk h => by have h1 := S4.out.n.lt _ h; rcases G5 k hk with h2 | h2; exact h2; omega⟩)
  clear O5 F5 G5 S4
  go_wp2_with fail
  refine (take_c S5.out.n 1 ((1, 0, [98]), true) rfl [(0, 1, [97]), (0, 1, [97])] rfl).mono ?_
  rintro e w6 ⟨v6, rfl, O6, I6, F6, G6⟩
  replace O6 : OwnB 5 w6 v6 [98] := O6
  obtain ⟨A6, c6, rfl, hc6⟩ := O6.slice
  have hF6 : Fr No w6 (w6.alloc (.cells #[.int .i64 1, .int .i64 0, .slice A6 1 c6] 29)) := (Fr.refl No w6).alloc _
  have S6 := hid ((S5.out.same I6 F6).keep hF6)
  have O6' := hid (O6.keep hF6 (fun k _ => not_no k))
  have D6 := hid (Blk.new w6 29 #[.int .i64 1, .int .i64 0, .slice A6 1 c6])
  have D56 := hid ((D5.out.keep F6 N5.out.1).keep hF6 (not_no _))
  have O56 := hid ((O5'.out.keep F6 N5.out.2).keep hF6 (fun k _ => not_no k))
  have N6 := hid (show ¬ F w6.heap.size ∧ ∀ k, Of (.slice A6 1 c6) k → ¬ F k from ⟨fun h => by have := S5.out.n.lt _ h; have := F6.size; omega, fun k hk h => by have h1 := S5.out.n.lt _ h; have h2 := G6 k hk; omega⟩)
  clear O6 I6 F6 G6 hF6 S5 O5' D5
  go_wp2_with fail
  refine (drop_c S6.out.n 0 true rfl [(0, 1, [97])] rfl).mono ?_
  rintro e w7 ⟨rfl, I7, F7⟩
  have S7 := hid (S6.out.same I7 F7)
  have O57 := hid (O56.out.keep F7 N5.out.2)
  have D57 := hid (D56.out.keep F7 N5.out.1)
  have O67 := hid (O6'.out.keep F7 N6.out.2)
  have D67 := hid (D6.out.keep F7 N6.out.1)
  clear I7 F7 S6 O56 D56 O6' D6
  go_wp2_with fail
  refine (forget_c S7.out.n 1 [] rfl).mono ?_
  rintro e w8 ⟨rfl, I8, F8⟩
  have S8 := hid (S7.out.same I8 F8)
  have O58 := hid (O57.out.keep F8 N5.out.2)
  have D58 := hid (D57.out.keep F8 N5.out.1)
  have O68 := hid (O67.out.keep F8 N6.out.2)
  have D68 := hid (D67.out.keep F8 N6.out.1)
  clear I8 F8 S7 O57 D57 O67 D67
  go_wp2_with fail
  refine (look_c S8.out.n 0 ((0, 0, []), false) rfl).mono ?_
  rintro e w9 ⟨v9, rfl, O9, F9, G9⟩
  replace O9 : OwnB 5 w9 v9 [] := O9
  obtain ⟨A9, c9, rfl, hc9⟩ := O9.slice
  have hF9 := F9.alloc (.cells #[.int .i64 0, .int .i64 0, .slice A9 0 c9] 29)
  have S9 := hid (S8.out.keep hF9)
  have O59 := hid (O58.out.keep hF9 (fun k _ => not_no k))
  have D59 := hid (D58.out.keep hF9 (not_no _))
  have O69 := hid (O68.out.keep hF9 (fun k _ => not_no k))
  have D69 := hid (D68.out.keep hF9 (not_no _))
  clear O9 F9 G9 S8 O58 D58 O68 D68 hF9
  obtain ⟨a0, a1, a2, af⟩ := D59.out.three
  obtain ⟨b0, b1, b2, bf⟩ := D69.out.three
  go_wp2_with fail
  clear a0 a1 a2 af
  refine (same_g _ 0 1 0 1 _ _ [97] [97] (O59.out.alloc _).rd (RdB.lit_ _ _ _ _ _ rfl rfl _ (by first | rfl | simp)) true (by decide)).mono ?_
  rintro e w10 ⟨rfl, F10⟩
  have F10' := hid (((Fr.refl No _).alloc _).fresh_no F10)
  have S10 := hid (S9.out.keep F10'.out)
  have O610 := hid (O69.out.keep F10'.out (fun k _ => not_no k))
  have D610 := hid (D69.out.keep F10'.out (not_no _))
  clear F10 S9 O59 D59 O69 D69 F10' b0 b1 b2 bf
  obtain ⟨b0, b1, b2, bf⟩ := D610.out.three
  go_wp2_with fail
  refine (same_g _ 1 0 1 0 _ _ [98] [98] (O610.out.alloc _).rd (RdB.lit_ _ _ _ _ _ rfl rfl _ (by first | rfl | simp)) true (by decide)).mono ?_
  rintro e w11 ⟨rfl, F11⟩
  have S11 := hid (S10.out.keep (((Fr.refl No _).alloc _).fresh_no F11))
  clear F11 S10 O610 D610 b0 b1 b2 bf
  go_wp2_with fail
  refine (flying_c S11.out.n).mono ?_
  rintro e wx ⟨rfl, rfl⟩
  go_wp2_with fail
  go_ret
  exact ⟨rfl, S11.out.fr⟩
end Go.Proofs.Ytjgcibjodiefkaa
