import Derived.Test.YtkglndlmjleomaaSortQ
/-! (*Boxes).Waiting. -/
namespace Go.Proofs.Ytkglndlmjleomaa
open Go.RowKit
set_option linter.unusedVariables false
set_option linter.unusedSimpArgs false

theorem perm_keyM : ∀ (l : List (Int × Value)) (q : Int × Value), (l.map (·.1)).Nodup → q ∈ l → l.Perm (q :: l.filter (fun p => decide (p.1 ≠ q.1)))
  | [], q, _, h => by simp at h
  | a :: l, q, hn, h => by
    rw [List.map_cons, List.nodup_cons] at hn
    rcases List.mem_cons.1 h with rfl | h
    · rw [List.filter_cons, if_neg (by simp)]
      rw [List.filter_eq_self.2 (fun p hp => by simp; exact fun e => hn.1 (List.mem_map.2 ⟨p, hp, e⟩))]
    · have hne : a.1 ≠ q.1 := fun e => hn.1 (List.mem_map.2 ⟨q, h, e.symm⟩)
      rw [List.filter_cons, if_pos (by simpa using hne)]
      exact (List.Perm.cons a (perm_keyM l q hn.2 h)).trans (List.Perm.swap q a _)
theorem sorted_perm {a b : List Int} (h : a.Perm b) : sorted a = sorted b := by
  unfold sorted
  have tr : ∀ a b c : Int, decide (a ≤ b) = true → decide (b ≤ c) = true → decide (a ≤ c) = true := fun a b c h1 h2 => by simp only [decide_eq_true_eq] at *; omega
  have to : ∀ a b : Int, (decide (a ≤ b) || decide (b ≤ a)) = true := fun a b => by simp only [Bool.or_eq_true, decide_eq_true_eq]; omega
  refine List.Perm.eq_of_pairwise (le := fun a b => decide (a ≤ b) = true) (fun a b _ _ h1 h2 => ?_) (List.pairwise_mergeSort tr to a) (List.pairwise_mergeSort tr to b) (((List.mergeSort_perm a _).trans h).trans (List.mergeSort_perm b _).symm)
  simp only [decide_eq_true_eq] at h1 h2
  omega
theorem infoI64 : (Try.prog.info? 2).map (fun i => (i.zero, i.size, i.bytes)) = some (some (.int .i64 0), 1, 8) := by kernel_rfl
theorem Rd.one (w : World) (z : Int) : Rd 1 (w.alloc (.cells #[.int .i64 z] 2)) (.slice (some ⟨w.heap.size, 0, none⟩) 1 1) 1 (ints [z]) := by
  refine ⟨some ⟨w.heap.size, 0, none⟩, 1, rfl, by omega, rfl, fun _ => ⟨w.heap.size, 0, rfl, by simp, fun j u hu => ?_⟩⟩
  have h := (Blk.new w 2 #[.int .i64 z]).cell j
  rw [Nat.zero_add, h]
  simpa [ints] using hu
theorem keyQ : KeyOK Try.prog 2 (Value.int .i64) := keyOK_int Try.underlying2
/-- what is to come yet: a part of the table -/
structure Sub (left ms : List (Int × Value)) : Prop where
  sub : left.Sublist ms
set_option maxRecDepth 100000 in
set_option maxHeartbeats 4000000 in
theorem waiting_c {w : World} {g b : Nat} {n : Int} {ms : List (Int × Value)} (hb : Blk w g 61 #[.int .i64 n, .map (some b)]) (hm : IsMap w b ms) (hml : ms.length ≤ 100000) :
    Calls Try.prog 19 #[.pointer (some ⟨g, 0, none⟩)] w fun e w' =>
      ∃ v', e = .returned v' ∧ Own 2 1 w' v' (sorted (ms.map (·.1))).length (ints (sorted (ms.map (·.1)))) ∧ Fr No w w' ∧ ∀ x, Of v' x → w.heap.size ≤ x := by
  obtain ⟨c0, c1, cf⟩ := hb.pair
  obtain ⟨it, hrng, hit⟩ := run_rangeK (P := Try.prog) (T := 44) (K := 2) (E := 39) (enc := Value.int .i64) Try.underlying44 hm
  have HN := hid hm.nodup
  have HIT := hid hit
  have HB := hid hb
  have HBL := hid (show b < w.heap.size from by
    obtain ⟨es, clock, hx, _⟩ := hm
    exact lt_of_some hx)
  clear hit hb hm
  go_enter Try.func19, Try.ntmps19
  go_wp2_with fail
  refine (right_yes HB.out).mono ?_
  rintro e wx ⟨rfl, rfl⟩
  go_wp2_with fail
  go_loopg [3] (ms.length + 1) (fun q v3 w' => ∃ (left : List (Int × Value)) (out : List Int), q = left.length + 1 ∧ Hid (left.Sublist ms) ∧ Hid (IterAt (Value.int .i64) w' wx.heap.size b ms left) ∧ Hid (Fr No wx w') ∧ Hid (Own 2 1 w' v3 out.length (ints out)) ∧ Hid (∀ x, Of v3 x → wx.heap.size < x) ∧ Hid ((out ++ left.map (·.1)).Perm (ms.map (·.1))))
  case atStart => exact ⟨ms, [], rfl, List.Sublist.refl _, HIT.out, (Fr.refl _ wx).alloc _, Own.nil _ _ _, fun x hx => absurd hx Of_none, List.Perm.refl _⟩
  case round =>
    obtain ⟨left, out, hq, HS, HI, HF, HO, HV, HP⟩ := hrel
    have HQ := hid hq
    have hol : out.length ≤ ms.length := by
      have := HP.out.length_eq
      rw [List.length_append, List.length_map, List.length_map] at this
      omega
    have HOL := hid (show out.length ≤ 100000 by omega)
    clear hq HIT hol
    obtain ⟨A7, c7, rfl, hc7, _⟩ := HO.out.slice
    rcases HI.out.step keyQ 0 with ⟨hl, hnext⟩ | ⟨p, hp, w2, hnext, hent, hi2, hf2⟩
    · have HL := hid hl
      clear hl
      go_wp2_with fail
      refine (sort_c _ _ out HO.out (by have := HOL.out; omega)).mono ?_
      rintro e w3 ⟨rfl, o3, f3⟩
      have hsl : (sorted out).length = out.length := by simp [sorted]
      have HO3 := hid (show Own 2 1 w3 (.slice A7 out.length c7) (sorted out).length (ints (sorted out)) from by rw [hsl]; exact o3)
      have HF3 := hid (HF.out.fresh f3 (fun x hx => Nat.le_of_lt (HV.out x hx)))
      clear o3 f3
      go_wp2_with fail
      go_ret
      have hP := HP.out
      rw [HL.out] at hP
      have hout : sorted out = sorted (ms.map (·.1)) := sorted_perm (by simpa using hP)
      rw [← hout]
      exact ⟨_, rfl, HO3.out, HF3.out, fun x hx => Nat.le_of_lt (HV.out x hx)⟩
    · obtain ⟨k, x⟩ := p
      have hpm := perm_keyM left (k, x) (HN.out.sublist (HS.out.map _)) hp
      have HPM := hid hpm
      have HM := hid (show (left.filter (fun p => decide (p.1 ≠ k))).length < left.length by have := hpm.length_eq; simp only [List.length_cons] at this; omega)
      have HSS := hid (List.Sublist.trans (List.filter_sublist (p := fun p : Int × Value => decide (p.1 ≠ k))) HS.out)
      have HI2 := hid hi2
      have HF2 := hid (HF.out.trans hf2 (fun x hx e => absurd hx (by omega)))
      have HO2 := hid (HO.out.keep hf2 (fun x hx e => by have := HV.out x hx; omega))
      dsimp only at hnext hent
      clear hp hi2 hf2 hpm
      generalize left.filter (fun p => decide (p.1 ≠ k)) = left2 at HPM HM HSS HI2
      have HR := hid (Rd.one w2 k)
      have FX := hid ((Fr.refl No w2).alloc (.cells #[.int .i64 k] 2))
      have I3 := hid (HI2.out.keep FX.out (not_no _) (not_no _))
      have HF3 := hid (HF2.out.alloc (.cells #[.int .i64 k] 2))
      have HO3 := hid (HO2.out.keep FX.out (fun x _ => not_no x))
      go_wp2_with (at_builtin; refine wpl_app _ rfl (.tmp 16) (.tmp 18) _ rfl 2 (.int .i64 0) 1 8 Try.underlying46 infoI64 (by rfl) _ out.length (ints out) rfl HO3.out _ 1 (ints [k]) rfl HR.out (ints_one _) (by have := HOL.out; simp only [maxLen]; omega) (by have := HOL.out; omega) ?_; intro v9 w9 o9 f9 g9)
      have HOF := hid (show Own 2 1 w9 v9 (out ++ [k]).length (ints (out ++ [k])) from by
        have := o9
        unfold ints at this ⊢
        rwa [List.length_append, List.map_append])
      have HF9 := hid (HF3.out.fresh f9 (fun x hx => Nat.le_of_lt (HV.out x hx)))
      have HLT := hid (I3.out.lt)
      have I9 := hid (I3.out.keep f9 (fun e => by have := HV.out _ e; omega) (fun e => by have := HV.out _ e; have := HBL.out; omega))
      have HV9 := hid (show ∀ x, Of v9 x → wx.heap.size < x from fun x hx => (g9 x hx).elim (fun h => HV.out x h) (fun h => by rw [h]; exact HLT.out.1))
      clear o9 f9 g9
      go_wp2_with fail
      go_roundg (left2.length + 1)
      case measure => have := HQ.out; have := HM.out; omega
      case rel =>
        refine ⟨left2, out ++ [k], rfl, HSS.out, I9, HF9, HOF, HV9, ?_⟩
        have h2 := ((HPM.out.map (·.1)).symm.append_left out).trans HP.out
        have h3 : (out ++ [k] ++ left2.map (·.1)).Perm (ms.map (·.1)) := by simpa using h2
        exact h3
end Go.Proofs.Ytkglndlmjleomaa
