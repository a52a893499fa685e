import Derived.Test.YthcebkbedfaoeaaLeaseH
import Derived.RangeFuncNested
import Derived.RangeFuncBound
import Derived.RangeFuncCalls
import Derived.RangeFuncLeaves
import Derived.RangeFuncBox
import Derived.Shelf.Abstract
import Derived.Shelf.RegionOpen
import Derived.OwnWalkIn
import Derived.TacticsInMore
import Derived.LoopNIn
import Derived.LoopIn
import Derived.Sort.LoopGhostIn
import Derived.Maps.AppendAt
/-! maps.Values at a table's map: the iterator that it hands back. -/
namespace Go.Proofs.Ythcebkbedfaoeaa
open Go.RowKit Go.Shelf
set_option linter.unusedVariables false
set_option linter.unusedSimpArgs false

theorem Fr.grown1 {w w' : World} {r : Nat} (h : Fr (fun x => x = r) w w') : w.grownBy w' (some r) :=
  ⟨h.os, h.tape, h.output, h.size, fun k hk hn => h.block k hk (fun e => hn (by rw [e]))⟩
theorem IterAt.walks {κ : Type} {enc : κ → Value} {w w' : World} {r b : Nat} {ms left : List (κ × Value)} (h : IterAt enc w r b ms left) (hk : KeepsWalks w w') : IterAt enc w' r b ms left := by
  obtain ⟨es, clock, since, seen, c0, hr, hb, hx⟩ := h
  exact ⟨es, clock, since, seen, c0, hk.same r _ hr rfl, hk.same b _ hb rfl, hx⟩
theorem IterAt.walk {κ : Type} {enc : κ → Value} {w : World} {r b : Nat} {ms left : List (κ × Value)} (h : IterAt enc w r b ms left) : ∃ o : Obj, w.heap[r]? = some o ∧ o.isWalk = true := by
  obtain ⟨es, clock, since, seen, c0, hr, _⟩ := h
  exact ⟨_, hr, rfl⟩
theorem filter_less {κ α : Type} [DecidableEq κ] {l : List (κ × α)} {q : κ × α} (hq : q ∈ l) : (l.filter (fun p => decide (p.1 ≠ q.1))).length < l.length := by
  rcases Nat.lt_or_ge (l.filter (fun p => decide (p.1 ≠ q.1))).length l.length with h | h
  · exact h
  · have := List.length_filter_le (fun p : κ × α => decide (p.1 ≠ q.1)) l
    have e := List.length_filter_eq_length_iff.1 (Nat.le_antisymm this h) q hq
    simp at e
theorem perm_step (l : List (K3 × Ls)) (k : K3) (x : Ls) (hn : (l.map (·.1)).Nodup) (hq : (k, x) ∈ l) : (l.map (·.2)).Perm (x :: (l.filter (fun p => decide (p.1 ≠ k))).map (·.2)) := by
  have := (perm_key l (k, x) hn hq).map (·.2)
  simpa using this
set_option maxRecDepth 100000 in
set_option maxHeartbeats 2000000 in
theorem values1_c (F : Fence) (n : Nat) (hF : F.fn 45) (hro : F.round = none) (hn : 1 ≤ n) (l Bm b : Nat) (ms : List (K3 × Ls)) (J Jx : List Ls → World → Prop)
    (hY : ∀ pre x W, J pre W → pre.length < ms.length → YieldAt F (n - 1) Try.prog l #[x.val] W fun e W' =>
      (e = .returned (.bool true) ∧ J (pre ++ [x]) W' ∧ KeepsWalks W W') ∨ (e = .returned (.bool false) ∧ Jx (pre ++ [x]) W'))
    (W : World) (hJ : AbidesFrom W.heap.size J) (hm : W.cell? ⟨Bm, 0, none⟩ = some (.map (some b))) (hown : MapAt enc3 W b (vals ms)) (h0 : J [] W) :
    CallsIn F n Try.prog 45 #[.func (.yield l) #[] #[], .pointer (some ⟨Bm, 0, none⟩)] W fun e W' => (∃ v, e = .returned v) ∧
      ((∃ xs, xs.Perm (ms.map (·.2)) ∧ J xs W') ∨ (∃ pre, True ∧ Jx pre W')) := by
  obtain ⟨it, hrng, hit⟩ := run_rangeK (P := Try.prog) (T := 25) (K := 65) (E := 30) (enc := enc3) Try.underlying25 hown
  have hnd : (ms.map (·.1)).Nodup := by have := hown.nodup; rwa [vals_keys] at this
  have HN := hid hnd
  have HIT := hid hit
  have HJ := hid hJ
  have HJ0 := hid (hJ [] W (W.alloc it) none h0 (World.grownBy_alloc W it none) (fun r e => by cases e))
  have HY := hid hY
  clear hnd hit hJ h0 hY hown
  refine callsIn_of_wp Try.func45 rfl hF ?_ hro
  simp only [Try.ntmps45, List.size_toArray, List.length_cons, List.length_nil, Nat.reduceAdd, Nat.reduceSub, Array.replicate_succ, Array.replicate_zero, List.push_toArray, List.append_toArray, List.nil_append, List.cons_append]
  gi_wp2
  gi_loopg [4] (ms.length + 1) (fun q v4 w' => ∃ (left : List (K3 × Ls)) (ss : List Ls), q = left.length + 1 ∧ Hid (IterAt enc3 w' W.heap.size b (vals ms) (vals left)) ∧ Hid (left.Sublist ms) ∧ Hid (ss.length + left.length = ms.length) ∧ Hid ((ss ++ left.map (·.2)).Perm (ms.map (·.2))) ∧ Hid (J ss w'))
  case atStart => exact ⟨ms, [], rfl, HIT.out, List.Sublist.refl _, by simp [Hid], List.Perm.refl _, HJ0.out⟩
  case round =>
    obtain ⟨left, ss, hq, HI, HL, HC, HP, HJS⟩ := hrel
    have HQ := hid hq
    clear hq HIT HJ0
    rcases HI.out.step keyOK3 0 with ⟨hl, hnext⟩ | ⟨p, hp, w2, hnext, hent, hi2, hf2⟩
    · have hle := hid (vals_nil hl)
      clear hl
      gi_wp2
      go_end0
      exact ⟨⟨_, rfl⟩, .inl ⟨ss, by have h := HP.out; rw [hle.out] at h; simpa using h, HJS.out⟩⟩
    · obtain ⟨⟨k, x⟩, hq, rfl⟩ := vals_mem hp
      have HM := hid hq
      rw [vals_filter] at hi2
      have HI2 := hid hi2
      have HJ2 := hid (HJ.out ss wr w2 (some W.heap.size) HJS.out hf2.grown1 (fun r e => by cases e; exact ⟨Nat.le_refl _, HI.out.walk⟩))
      obtain ⟨k0, k1, k2⟩ := k
      obtain ⟨a0, a1, a2, a3, a4⟩ := x
      dsimp only at hnext hent
      replace hnext : (Instr.next (.pointer (some ⟨W.heap.size, 0, none⟩)) false 0).run Try.prog wr = .ok (.tuple #[.bool true, .agg #[.int .i64 k0, .int .i64 k1, .int .i64 k2], .agg #[.int .i64 a0, .int .i64 a1, .int .i64 a2, .int .i64 a3, .int .i64 a4]]) w2 := hnext
      replace hent : (Instr.entry (.pointer (some ⟨W.heap.size, 0, none⟩))).run Try.prog w2 = .ok (.tuple #[.agg #[.int .i64 k0, .int .i64 k1, .int .i64 k2], .agg #[.int .i64 a0, .int .i64 a1, .int .i64 a2, .int .i64 a3, .int .i64 a4]]) w2 := hent
      have HJ3 := hid (HJ.out ss w2 (w2.alloc (.cells #[.int .i64 a0, .int .i64 a1, .int .i64 a2, .int .i64 a3, .int .i64 a4] 30)) none HJ2.out (World.grownBy_alloc w2 _ none) (fun r e => by cases e))
      have HI3 := hid (HI2.out.keep ((Fr.refl No w2).alloc (.cells #[.int .i64 a0, .int .i64 a1, .int .i64 a2, .int .i64 a3, .int .i64 a4] 30)) (not_no _) (not_no _))
      have HLT := hid (filter_less HM.out)
      have HST := hid (perm_step left (k0, k1, k2) ⟨a0, a1, a2, a3, a4⟩ (HN.out.sublist (HL.out.map (·.1))) HM.out)
      have hlen : ss.length < ms.length := by
        have h1 := HC.out
        have h2 : 0 < left.length := List.length_pos_of_mem HM.out
        omega
      obtain ⟨fn, tmps, assign, body, hy, hR⟩ := HY.out ss ⟨a0, a1, a2, a3, a4⟩ _ HJ3.out hlen
      unfold Ls.val Ls.cells at hy
      dsimp only at hy
      clear hp hq hi2 hf2 hlen
      gi_wp2
      refine hR.mono ?_
      rintro e W3 (⟨rfl, hJ3, hk3⟩ | ⟨rfl, hJx3⟩)
      · have HJ4 := hid hJ3
        have HI4 := hid (HI3.out.walks hk3)
        clear hJ3 hk3
        gi_wp2
        gi_roundg ((left.filter (fun p : K3 × Ls => decide (p.1 ≠ (k0, k1, k2)))).length + 1)
        case measure => have h1 := HQ.out; have h2 := HLT.out; omega
        case rel => exact ⟨_, ss ++ [⟨a0, a1, a2, a3, a4⟩], rfl, HI4, List.filter_sublist.trans HL.out, by have h1 := HC.out; have h2 := HST.out.length_eq; simp only [List.length_map, List.length_cons] at h2; show _ = _; rw [List.length_append, List.length_singleton]; omega, by
            have h := HP.out
            refine List.Perm.trans ?_ h
            rw [List.append_assoc]
            exact (HST.out.symm).append_left ss, HJ4⟩
      · gi_wp2
        refine bodyPost_ret (results_none rfl _ _ _) rfl ?_
        exact ⟨⟨_, rfl⟩, .inr ⟨_, trivial, hJx3⟩⟩
set_option maxHeartbeats 1000000 in
/-- maps.Values: the map is boxed; the function value captures the box -/
theorem values_c (F : Fence) (n : Nat) (hF : F.fn 33) (hro : F.round = none) (mb : Option Nat) (w : World) :
    CallsIn F n Try.prog 33 #[.map mb] w fun e w' => e = .returned (.func (.func 45) #[] #[.pointer (some ⟨w.heap.size, 0, none⟩)]) ∧ w' = w.alloc (.cells #[.map mb] 25) := by
  refine callsIn_of_wp Try.func33 rfl hF ?_ hro
  simp only [Try.ntmps33, List.size_toArray, List.length_cons, List.length_nil, Nat.reduceAdd, Nat.reduceSub, Array.replicate_succ, Array.replicate_zero, List.push_toArray, List.append_toArray, List.nil_append, List.cons_append]
  gi_wp2
  go_ret
  exact ⟨rfl, rfl⟩
theorem values_stops (F : Fence) (n : Nat) (hF : F.fn 45) (hro : F.round = none) (hn : 1 ≤ n) (Bm b : Nat) (ms : List (K3 × Ls)) (w : World) (hBm : Bm < w.heap.size)
    (hm : w.cell? ⟨Bm, 0, none⟩ = some (.map (some b))) (hown : MapAt enc3 w b (vals ms)) :
    SeqStopsK F n Try.prog 45 #[.pointer (some ⟨Bm, 0, none⟩)] (fun x : Ls => #[x.val]) KeepsWalks (fun xs => xs.Perm (ms.map (·.2))) (fun _ => True) ms.length w := fun l J Jx W hW hJ _ hY h0 => by
  refine (values1_c F n hF hro hn l Bm b ms J Jx hY W hJ ((hW.cell (p := ⟨Bm, 0, none⟩) hBm).trans hm) ?_ h0).mono ?_
  · obtain ⟨es, clock, hb, hx⟩ := hown
    exact ⟨es, clock, (hW.block b (lt_of_some hb)).trans hb, hx⟩
  · rintro e W' ⟨hv, h⟩
    exact ⟨hv, h⟩
end Go.Proofs.Ythcebkbedfaoeaa
