import Derived.Test.YthcebkbedfaoeaaLeaseF
import Derived.Test.YthcebkbedfaoeaaCompact
/-! Holders. -/
namespace Go.Proofs.Ythcebkbedfaoeaa
open Go.RowKit
set_option linter.unusedVariables false
set_option linter.unusedSimpArgs false

theorem compact_any (w : World) (v : Value) (zs : List Int) (h : Own 3 1 w v zs.length (ints zs)) (hm : zs.length ≤ 1000000) :
    Calls Try.prog 31 #[v] w fun e w' => ∃ v', e = .returned v' ∧ Own 3 1 w' v' (compactL zs).length (ints (compactL zs)) ∧ Fr (Of v) w w' ∧ ∀ x, Of v' x → Of v x := by
  have hx := h
  rcases h.2 with ⟨rfl, h0⟩ | ⟨g, cap, cur, rfl, hb, h1, h2, h3, h4⟩
  · have : zs = [] := List.eq_nil_of_length_eq_zero h0
    subst this
    refine (compact_short w none 0 0 (by decide)).mono ?_
    rintro e w' ⟨rfl, rfl⟩
    exact ⟨_, rfl, hx, Fr.refl _ _, fun x hx => hx⟩
  · by_cases hl : zs.length < 2
    · refine (compact_short w _ _ cap hl).mono ?_
      rintro e w' ⟨rfl, rfl⟩
      refine ⟨_, rfl, ?_, Fr.refl _ _, fun x hx => hx⟩
      rw [compact_one zs hl]
      exact hx
    · refine (compact_long w g cap zs hx (by omega) hm).mono ?_
      rintro e w' ⟨rfl, ho, hf⟩
      exact ⟨_, rfl, ho, hf.mono (fun x _ hx => Of_some.2 hx), fun x hx => Of_some.2 (Of_some.1 hx)⟩
def holdB (epoch s tick : Int) (x : Ls) : Bool := decide (x.epoch < epoch) && stands x s tick
def nodesOf (epoch s tick : Int) (ms : List (K3 × Ls)) : List Int := (ms.filter (fun p => holdB epoch s tick p.2)).map (fun p => p.2.node)
/-- who holds: each once, in order -/
def holdersL (epoch s tick : Int) (ms : List (K3 × Ls)) : List Int := compactL (sorted (nodesOf epoch s tick ms))
theorem perm_key : ∀ (l : List (K3 × Ls)) (q : K3 × Ls), (l.map (·.1)).Nodup → q ∈ l → l.Perm (q :: l.filter (fun p => decide (p.1 ≠ q.1)))
  | [], q, _, h => by simp at h
  | a :: l, q, hn, h => by
    rw [List.map_cons, List.nodup_cons] at hn
    rcases List.mem_cons.1 h with rfl | h
    · rw [List.filter_cons, if_neg (by simp)]
      rw [List.filter_eq_self.2 (fun p hp => by simp; exact fun e => hn.1 (List.mem_map.2 ⟨p, hp, e⟩))]
    · have hne : a.1 ≠ q.1 := fun e => hn.1 (List.mem_map.2 ⟨q, h, e.symm⟩)
      rw [List.filter_cons, if_pos (by simpa using hne)]
      exact (List.Perm.cons a (perm_key l q hn.2 h)).trans (List.Perm.swap q a _)
theorem nodes_step (epoch s tick : Int) (l : List (K3 × Ls)) (q : K3 × Ls) (hn : (l.map (·.1)).Nodup) (hq : q ∈ l) :
    (nodesOf epoch s tick l).Perm ((if holdB epoch s tick q.2 then [q.2.node] else []) ++ nodesOf epoch s tick (l.filter (fun p => decide (p.1 ≠ q.1)))) := by
  have h := ((perm_key l q hn hq).filter (fun p => holdB epoch s tick p.2)).map (fun p => p.2.node)
  unfold nodesOf
  rw [List.filter_cons] at h
  cases hb : holdB epoch s tick q.2 with
  | false => simpa [hb] using h
  | true => simpa [hb] using h
theorem sorted_perm {a b : List Int} (h : a.Perm b) : sorted a = sorted b := by
  unfold sorted
  have tr : ∀ a b c : Int, decide (a ≤ b) = true → decide (b ≤ c) = true → decide (a ≤ c) = true := fun a b c h1 h2 => by simp only [decide_eq_true_eq] at *; omega
  have to : ∀ a b : Int, (decide (a ≤ b) || decide (b ≤ a)) = true := fun a b => by simp only [Bool.or_eq_true, decide_eq_true_eq]; omega
  refine List.Perm.eq_of_pairwise (le := fun a b => decide (a ≤ b) = true) (fun a b _ _ h1 h2 => ?_) (List.pairwise_mergeSort tr to a) (List.pairwise_mergeSort tr to b) (((List.mergeSort_perm a _).trans h).trans (List.mergeSort_perm b _).symm)
  simp only [decide_eq_true_eq] at h1 h2
  omega
theorem infoI : (Try.prog.info? 3).map (fun i => (i.zero, i.size, i.bytes)) = some (some (.int .i64 0), 1, 8) := by kernel_rfl
theorem Rd.one (w : World) (z : Int) : Rd 1 (w.alloc (.cells #[.int .i64 z] 3)) (.slice (some ⟨w.heap.size, 0, none⟩) 1 1) 1 (ints [z]) := by
  refine ⟨some ⟨w.heap.size, 0, none⟩, 1, rfl, by omega, rfl, fun _ => ⟨w.heap.size, 0, rfl, by simp, fun j u hu => ?_⟩⟩
  have h := (Blk.new w 3 #[.int .i64 z]).cell j
  rw [Nat.zero_add, h]
  simpa [ints] using hu
theorem toCome_sub (dn : List K3) (ms : List (K3 × Ls)) : (toCome dn ms).Sublist ms := List.filter_sublist
set_option maxRecDepth 100000 in
set_option maxHeartbeats 4000000 in
theorem holders_c {w : World} {g b : Nat} {n l s : Int} {ms : List (K3 × Ls)} (h : IsTab w g b n l s ms) (epoch tick : Int) (hx : Tills ms) (hml : ms.length ≤ 100000) (hs : 0 ≤ s ∧ s ≤ 1048576) :
    Calls Try.prog 12 #[.pointer (some ⟨g, 0, none⟩), .int .i64 epoch, .int .i64 tick] w fun e w' =>
      ∃ v', e = .returned v' ∧ Own 3 1 w' v' (holdersL epoch s tick ms).length (ints (holdersL epoch s tick ms)) ∧ Fr No w w' ∧ ∀ x, Of v' x → w.heap.size ≤ x := by
  obtain ⟨c0, c1, c2, c3, cf⟩ := h.blk.four
  obtain ⟨it, hrng, hit⟩ := run_rangeK (P := Try.prog) (T := 25) (K := 65) (E := 30) (enc := enc3) Try.underlying25 h.map
  have hnd : (ms.map (·.1)).Nodup := by have := h.map.nodup; rwa [vals_keys] at this
  have HN := hid hnd
  have HIT := hid hit
  have HX := hid hx
  have H := hid h
  clear hnd hit hx h
  go_enter Try.func12, Try.ntmps12
  go_wp2_with fail
  refine (right_yes H.out.blk).mono ?_
  rintro e wx ⟨rfl, rfl⟩
  go_wp2_with fail
  go_loopg [7] (ms.length + 1) (fun q v7 w' => ∃ (dn : List K3) (out : List Int), q = (toCome dn ms).length + 1 ∧ Hid (IterAt enc3 w' wx.heap.size b (vals ms) (vals (toCome dn ms))) ∧ Hid (Fr No wx w') ∧ Hid (Own 3 1 w' v7 out.length (ints out)) ∧ Hid (∀ x, Of v7 x → wx.heap.size < x) ∧ Hid ((out ++ nodesOf epoch s tick (toCome dn ms)).Perm (nodesOf epoch s tick ms)))
  case atStart => exact ⟨[], [], by rw [toCome_nil], by rw [toCome_nil]; exact HIT.out, (Fr.refl _ wx).alloc _, Own.nil _ _ _, fun x hx => absurd hx Of_none, by rw [toCome_nil]; exact List.Perm.refl _⟩
  case round =>
    obtain ⟨dn, out, hq, HI, HF, HO, HV, HP⟩ := hrel
    have HQ := hid hq
    have hol : out.length ≤ ms.length := by
      have := HP.out.length_eq
      rw [List.length_append] at this
      have h2 : (nodesOf epoch s tick ms).length ≤ ms.length := by unfold nodesOf; rw [List.length_map]; exact List.length_filter_le _ _
      omega
    have HOL := hid hol
    clear hq HIT
    obtain ⟨A7, c7, rfl, hc7, _⟩ := HO.out.slice
    rcases HI.out.step keyOK3 0 with ⟨hl, hnext⟩ | ⟨p, hp, w2, hnext, hent, hi2, hf2⟩
    · have HL := hid (vals_nil hl)
      clear hl
      go_wp2_with fail
      refine (sort_c _ _ out HO.out (by omega)).mono ?_
      rintro e w3 ⟨rfl, o3, f3⟩
      have hsl : (sorted out).length = out.length := by simp [sorted]
      have HO3 := hid (show Own 3 1 w3 (.slice A7 out.length c7) (sorted out).length (ints (sorted out)) from by rw [hsl]; exact o3)
      have HF3 := hid (HF.out.fresh f3 (fun x hx => Nat.le_of_lt (HV.out x hx)))
      clear o3 f3
      go_wp2_with fail
      refine (compact_any _ _ (sorted out) HO3.out (by omega)).mono ?_
      rintro e w4 ⟨v4, rfl, o4, f4, s4⟩
      have HO4 := hid o4
      have HF4 := hid (HF3.out.fresh f4 (fun x hx => Nat.le_of_lt (HV.out x hx)))
      have HS4 := hid s4
      clear o4 f4 s4
      go_wp2_with fail
      go_ret
      have hP := HP.out
      rw [HL.out] at hP
      have hout : sorted out = sorted (nodesOf epoch s tick ms) := sorted_perm (by simpa [nodesOf] using hP)
      unfold holdersL
      rw [← hout]
      exact ⟨v4, rfl, HO4.out, HF4.out, fun x hx => Nat.le_of_lt (HV.out x (HS4.out x hx))⟩
    · obtain ⟨⟨k, x⟩, hq, rfl⟩ := vals_mem hp
      have HM := hid hq
      have HMS := hid (List.mem_filter.1 hq).1
      have HPS := hid (nodes_step epoch s tick (toCome dn ms) (k, x) (HN.out.sublist ((toCome_sub dn ms).map _)) hq)
      rw [vals_filter, toCome_cons] at hi2
      rw [toCome_cons] at HPS
      have HI2 := hid hi2
      have HTX := hid (HX.out _ HMS.out)
      have HF2 := hid (HF.out.trans hf2 (fun x hx e => absurd hx (by omega)))
      have HO2 := hid (HO.out.keep hf2 (fun x hx e => by have := HV.out x hx; omega))
      obtain ⟨k0, k1, k2⟩ := k
      obtain ⟨a0, a1, a2, a3, a4⟩ := x
      dsimp only at hnext hent
      replace hnext : (Instr.next (.pointer (some ⟨wx.heap.size, 0, none⟩)) false 0).run Try.prog wr = .ok (.tuple #[.bool true, .agg #[.int .i64 k0, .int .i64 k1, .int .i64 k2], .agg #[.int .i64 a0, .int .i64 a1, .int .i64 a2, .int .i64 a3, .int .i64 a4]]) w2 := hnext
      replace hent : (Instr.entry (.pointer (some ⟨wx.heap.size, 0, none⟩))).run Try.prog w2 = .ok (.tuple #[.agg #[.int .i64 k0, .int .i64 k1, .int .i64 k2], .agg #[.int .i64 a0, .int .i64 a1, .int .i64 a2, .int .i64 a3, .int .i64 a4]]) w2 := hent
      clear hp hq hi2 hf2
      have FX := hid ((Fr.refl No w2).alloc (.cells #[.int .i64 a0, .int .i64 a1, .int .i64 a2, .int .i64 a3, .int .i64 a4] 30))
      have I3 := hid (HI2.out.keep FX.out (not_no _) (not_no _))
      have HF3 := hid (HF2.out.alloc (.cells #[.int .i64 a0, .int .i64 a1, .int .i64 a2, .int .i64 a3, .int .i64 a4] 30))
      have HO3 := hid (HO2.out.keep FX.out (fun x _ => not_no x))
      by_cases c1 : a3 < epoch
      · go_wp2_with fail
        refine (stands_c ((H.out.blk.keep HF3.out (not_no _))) ⟨a0, a1, a2, a3, a4⟩ tick HTX.out hs).mono ?_
        rintro e w3 ⟨rfl, f3⟩
        have HX3 := hid ((Blk.new w2 30 #[.int .i64 a0, .int .i64 a1, .int .i64 a2, .int .i64 a3, .int .i64 a4]).keep f3 (not_no _))
        have I4 := hid (I3.out.keep f3 (not_no _) (not_no _))
        have HF4 := hid (HF3.out.fresh_no f3)
        have HO4 := hid (HO3.out.keep f3 (fun x _ => not_no x))
        have HC1 := hid c1
        clear hnext hent f3 c1
        have x0 := HX3.out.cell 0
        cases hst : stands ⟨a0, a1, a2, a3, a4⟩ s tick with
        | false =>
          have HST := hid hst
          clear hst
          go_wp2_with fail
          go_roundg ((toCome ((k0, k1, k2) :: dn) ms).length + 1)
          case measure => have := HQ.out; have : (toCome ((k0, k1, k2) :: dn) ms).length < (toCome dn ms).length := toCome_len HM.out; omega
          case rel =>
            refine ⟨(k0, k1, k2) :: dn, out, rfl, I4, HF4, HO4, HV, ?_⟩
            have hh : holdB epoch s tick ⟨a0, a1, a2, a3, a4⟩ = false := by unfold holdB; rw [HST.out, Bool.and_false]
            have := HPS.out
            rw [if_neg (by rw [hh]; simp), List.nil_append] at this
            exact (this.symm.append_left out).trans HP.out
        | true =>
          have HST := hid hst
          have HR := hid (Rd.one w3 a0)
          have HO5 := hid (HO4.out.keep ((Fr.refl No w3).alloc (.cells #[.int .i64 a0] 3)) (fun x _ => not_no x))
          have I5 := hid (I4.out.keep ((Fr.refl No w3).alloc (.cells #[.int .i64 a0] 3)) (not_no _) (not_no _))
          have HF5 := hid (HF4.out.alloc (.cells #[.int .i64 a0] 3))
          clear hst
          go_wp2_with (at_builtin; refine wpl_app _ rfl (.tmp 31) (.tmp 34) _ rfl 3 (.int .i64 0) 1 8 Try.underlying36 infoI (by rfl) _ out.length (ints out) rfl HO5.out _ 1 (ints [a0]) rfl HR.out (ints_one _) (by have := HOL.out; simp only [maxLen]; omega) (by have := HOL.out; omega) ?_; intro v9 w9 o9 f9 g9)
          have HOF := hid (show Own 3 1 w9 v9 (out ++ [a0]).length (ints (out ++ [a0])) from by
            have := o9
            unfold ints at this ⊢
            rwa [List.length_append, List.map_append])
          have HF9 := hid (HF5.out.fresh f9 (fun x hx => Nat.le_of_lt (HV.out x hx)))
          have HLT := hid (I5.out.lt)
          have I9 := hid (I5.out.keep f9 (fun e => by have := HV.out _ e; omega) (fun e => by have := HV.out _ e; have := H.out.map.lt; omega))
          have HV9 := hid (show ∀ x, Of v9 x → wx.heap.size < x from fun x hx => (g9 x hx).elim (fun h => HV.out x h) (fun h => by rw [h]; exact HLT.out.1))
          clear o9 f9 g9
          go_wp2_with fail
          go_roundg ((toCome ((k0, k1, k2) :: dn) ms).length + 1)
          case measure => have := HQ.out; have : (toCome ((k0, k1, k2) :: dn) ms).length < (toCome dn ms).length := toCome_len HM.out; omega
          case rel =>
            refine ⟨(k0, k1, k2) :: dn, out ++ [a0], rfl, I9, HF9, HOF, HV9, ?_⟩
            have hh : holdB epoch s tick ⟨a0, a1, a2, a3, a4⟩ = true := by unfold holdB; rw [HST.out]; simp; exact HC1.out
            have := HPS.out
            rw [if_pos hh] at this
            have h2 := (this.symm.append_left out).trans HP.out
            rwa [← List.append_assoc] at h2
      · have HC1 := hid c1
        go_wp2_with fail
        go_roundg ((toCome ((k0, k1, k2) :: dn) ms).length + 1)
        case measure => have := HQ.out; have : (toCome ((k0, k1, k2) :: dn) ms).length < (toCome dn ms).length := toCome_len HM.out; omega
        case rel =>
          refine ⟨(k0, k1, k2) :: dn, out, rfl, I3, HF3, HO3, HV, ?_⟩
          have hh : holdB epoch s tick ⟨a0, a1, a2, a3, a4⟩ = false := by unfold holdB; simp; intro h; exact absurd h (by have := HC1.out; omega)
          have := HPS.out
          rw [if_neg (by rw [hh]; simp), List.nil_append] at this
          exact (this.symm.append_left out).trans HP.out
end Go.Proofs.Ythcebkbedfaoeaa
