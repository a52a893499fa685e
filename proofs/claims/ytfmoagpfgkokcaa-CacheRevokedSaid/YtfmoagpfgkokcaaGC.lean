import Derived.Test.YtfmoagpfgkokcaaGB
/-! below; code copied. -/
namespace Go.Proofs.Ytfmoagpfgkokcaa
open Go.RowKit
set_option linter.unusedVariables false
set_option linter.unusedSimpArgs false

def underB (e : Ev) (p : Int × Int) : Bool := decide (e.ep < p.2) && restsB e.fn e.needs p.1
def belowB (fs : List (Int × Int)) (e : Ev) : Bool := fs.any (underB e)
theorem valsF_filter (fs : List (Int × Int)) (k : Int) : (valsF fs).filter (fun q => decide (q.1 ≠ k)) = valsF (fs.filter (fun q => decide (q.1 ≠ k))) := by
  unfold valsF
  rw [List.filter_map]
  rfl
theorem valsF_mem {fs : List (Int × Int)} {p : Int × Value} (h : p ∈ valsF fs) : ∃ q ∈ fs, p = (q.1, .int .i64 q.2) := by
  obtain ⟨q, hq, rfl⟩ := List.mem_map.1 h
  exact ⟨q, hq, rfl⟩
theorem valsF_nil {fs : List (Int × Int)} (h : valsF fs = []) : fs = [] := by
  cases fs with
  | nil => rfl
  | cons a t => simp [valsF] at h
theorem valsF_keys (fs : List (Int × Int)) : (valsF fs).map (·.1) = fs.map (·.1) := by simp [valsF, List.map_map, Function.comp_def]
theorem any_less {c : Int × Int → Bool} {l : List (Int × Int)} {q : Int × Int} (hn : (l.map (·.1)).Nodup) (hq : q ∈ l) (hc : c q = false) : l.any c = (l.filter (fun p => decide (p.1 ≠ q.1))).any c := by
  rw [Bool.eq_iff_iff, List.any_eq_true, List.any_eq_true]
  constructor
  · rintro ⟨p, hp, hpc⟩
    refine ⟨p, List.mem_filter.2 ⟨hp, ?_⟩, hpc⟩
    simp only [decide_eq_true_eq]
    intro e
    have := same_of_nodup (·.1) l hn p hp q hq e
    subst this
    rw [hc] at hpc
    cases hpc
  · rintro ⟨p, hp, hpc⟩
    exact ⟨p, (List.mem_filter.1 hp).1, hpc⟩
theorem filter_less {κ α : Type} [DecidableEq κ] {l : List (κ × α)} {q : κ × α} (hq : q ∈ l) : (l.filter (fun p => decide (p.1 ≠ q.1))).length < l.length := by
  rcases Nat.lt_or_ge (l.filter (fun p => decide (p.1 ≠ q.1))).length l.length with h | h
  · exact h
  · have := List.length_filter_le (fun p : κ × α => decide (p.1 ≠ q.1)) l
    have e := List.length_filter_eq_length_iff.1 (Nat.le_antisymm this h) q hq
    simp at e
set_option maxRecDepth 100000 in
set_option maxHeartbeats 2000000 in
theorem below_c {w : World} {g fb : Nat} {v : Value} {fs : List (Int × Int)} (hb : Blk w g 67 #[v, .map (some fb)]) (hm : MapAt (Value.int .i64) w fb (valsF fs)) (e : Ev) (he : e.ok w) :
    Calls Try.prog 27 #[.pointer (some ⟨g, 0, none⟩), e.val] w fun en w' => en = .returned (.bool (belowB fs e)) ∧ Fr No w w' := by
  obtain ⟨A, c, Ac, nc, cc, Ax, nx, cx, hv, hvc, hvx⟩ := Ev.slice he
  obtain ⟨a0, a1, a2, a3, a4, cd, cv, ex, xv, ns, nv⟩ := e
  replace hv : nv = .slice A ns.length c := hv
  replace hvc : cv = .slice Ac nc cc := hvc
  replace hvx : xv = .slice Ax nx cx := hvx
  subst hv hvc hvx
  obtain ⟨W, hW⟩ : ∃ W, w.alloc (.cells #[.int .i64 a0, .int .i64 a1, .int .i64 a2, .int .i64 a3, .int .i64 a4, .slice Ac nc cc, .slice Ax nx cx, .slice A ns.length c] 28) = W := ⟨_, rfl⟩
  have HW := hid hW
  have FW := hid (show Fr No w W from hW ▸ (Fr.refl No w).alloc _)
  have HX := hid (show Blk W w.heap.size 28 #[.int .i64 a0, .int .i64 a1, .int .i64 a2, .int .i64 a3, .int .i64 a4, .slice Ac nc cc, .slice Ax nx cx, .slice A ns.length c] from hW ▸ Blk.new w _ _)
  have HE := hid (he.keep FW.out)
  obtain ⟨c0, c1, cf⟩ := (hb.keep FW.out (not_no _)).pair
  obtain ⟨it, hrng, hit⟩ := run_rangeK (P := Try.prog) (T := 65) (K := 3) (E := 3) (enc := Value.int .i64) Try.underlying65 (hm.keep FW.out (not_no _))
  have hnd : (fs.map (·.1)).Nodup := by have := hm.nodup; rwa [valsF_keys] at this
  have HN := hid hnd
  have HIT := hid hit
  clear hW he hb hm hnd hit
  unfold Ev.val Ev.cells
  dsimp only
  go_enter Try.func27, Try.ntmps27
  go_upto_region 1 with fail
  rw [HW.out]
  go_wp2_with fail
  go_loopg [12] (fs.length + 1) (fun q v12 w' => ∃ left : List (Int × Int), q = left.length + 1 ∧ Hid (IterAt (Value.int .i64) w' W.heap.size fb (valsF fs) (valsF left)) ∧ Hid (Fr No W w') ∧ Hid (left.Sublist fs) ∧ Hid (belowB fs ⟨a0, a1, a2, a3, a4, cd, .slice Ac nc cc, ex, .slice Ax nx cx, ns, .slice A ns.length c⟩ = left.any (underB ⟨a0, a1, a2, a3, a4, cd, .slice Ac nc cc, ex, .slice Ax nx cx, ns, .slice A ns.length c⟩)))
  case atStart => exact ⟨fs, rfl, HIT.out, (Fr.refl No W).alloc _, List.Sublist.refl _, rfl⟩
  case round =>
    obtain ⟨left, hq, HI, HF, HL, HA⟩ := hrel
    have HQ := hid hq
    clear hq HIT
    rcases HI.out.step keyOKi 0 with ⟨hl, hnext⟩ | ⟨p, hp, w2, hnext, hent, hi2, hf2⟩
    · have hle := valsF_nil hl
      have HR := hid (show belowB fs ⟨a0, a1, a2, a3, a4, cd, .slice Ac nc cc, ex, .slice Ax nx cx, ns, .slice A ns.length c⟩ = false by rw [HA.out, hle]; rfl)
      clear hl hle
      go_wp2_with fail
      go_ret
      refine ⟨?_, FW.out.fresh_no HF.out⟩
      rw [HR.out]
      rfl
    · obtain ⟨⟨k, ep⟩, hq, rfl⟩ := valsF_mem hp
      have HM := hid hq
      rw [valsF_filter] at hi2
      have HI2 := hid hi2
      have HF2 := hid (HF.out.trans hf2 (fun x hx e => absurd hx (by omega)))
      have HX2 := hid (HX.out.keep HF2.out (not_no _))
      have HE2 := hid (HE.out.keep HF2.out)
      have HSUB := hid (List.filter_sublist.trans HL.out : (left.filter (fun p : Int × Int => decide (p.1 ≠ k))).Sublist fs)
      have HND := hid (HN.out.sublist (HL.out.map (·.1)))
      dsimp only at hnext hent
      have x1 := HX2.out.cell 1
      have x3 := HX2.out.cell 3
      have x4 := HX2.out.cell 4
      have x5 := HX2.out.cell 5
      have x6 := HX2.out.cell 6
      have x7 := HX2.out.cell 7
      clear hp hq hi2 hf2
      by_cases d1 : a1 < ep
      · go_wp2_with fail
        refine (rests_c HE2.out.nd (Nat.le_trans (Nat.le_mul_of_pos_right _ (by decide)) HE2.out.nl) a3 a4 k).mono ?_
        rintro en w3 ⟨rfl, f3⟩
        have HF3 := hid (HF2.out.fresh_no f3)
        have HI3 := hid (HI2.out.keep f3 (not_no _) (not_no _))
        have HD := hid d1
        clear f3 hnext hent x1 x3 x4 x5 x6 x7
        cases hr : restsB a3 ns k with
        | true =>
          have HR := hid (show belowB fs ⟨a0, a1, a2, a3, a4, cd, .slice Ac nc cc, ex, .slice Ax nx cx, ns, .slice A ns.length c⟩ = true by
            rw [HA.out]
            refine List.any_eq_true.2 ⟨(k, ep), HM.out, ?_⟩
            unfold underB
            simp [hr, HD.out])
          clear hr
          go_wp2_with fail
          go_ret
          refine ⟨?_, FW.out.fresh_no HF3.out⟩
          rw [HR.out]
          rfl
        | false =>
          have HNR := hid (any_less (c := underB ⟨a0, a1, a2, a3, a4, cd, .slice Ac nc cc, ex, .slice Ax nx cx, ns, .slice A ns.length c⟩) HND.out HM.out (by unfold underB; simp [hr]))
          clear hr
          go_wp2_with fail
          go_roundg ((left.filter (fun p : Int × Int => decide (p.1 ≠ k))).length + 1)
          case measure => have := HQ.out; have : (left.filter (fun p : Int × Int => decide (p.1 ≠ k))).length < left.length := filter_less HM.out; omega
          case rel => exact ⟨_, rfl, HI3, HF3, HSUB, HA.out.trans HNR.out⟩
      · have HNR := hid (any_less (c := underB ⟨a0, a1, a2, a3, a4, cd, .slice Ac nc cc, ex, .slice Ax nx cx, ns, .slice A ns.length c⟩) HND.out HM.out (by unfold underB; simp; intro h; exact absurd h d1))
        go_wp2_with fail
        go_roundg ((left.filter (fun p : Int × Int => decide (p.1 ≠ k))).length + 1)
        case measure => have := HQ.out; have : (left.filter (fun p : Int × Int => decide (p.1 ≠ k))).length < left.length := filter_less HM.out; omega
        case rel => exact ⟨_, rfl, HI2, HF2, HSUB, HA.out.trans HNR.out⟩
theorem infoN : (Try.prog.info? 48).map (fun i => (i.zero, i.size, i.bytes)) = some (some (.agg #[.int .i64 0, .int .u32 0]), 2, 16) := by kernel_rfl
set_option maxRecDepth 100000 in
set_option maxHeartbeats 400000 in
theorem cloneS_nil (w : World) : Calls Try.prog 37 #[.slice none 0 0] w fun e w' => e = .returned (.slice none 0 0) ∧ w' = w := by
  have kn := fun (w : World) (a : Option Addr) (n c : Nat) => Lib.run_eql_slice_nil (P := Try.prog) w 22 60 a n c 0 0 Try.underlying22
  go_enter Try.func37, Try.ntmps37
  go_wp2_with fail
  go_ret
  exact ⟨rfl, rfl⟩
set_option maxRecDepth 100000 in
set_option maxHeartbeats 400000 in
theorem cloneN_c (w : World) (v : Value) (l : List (Int × Int)) (hv : RdN w v l) (hl : l.length * 16 ≤ 140737488355328) :
    Calls Try.prog 38 #[v] w fun e w' => ∃ v', e = .returned v' ∧ OwnN w' v' l ∧ Fr No w w' ∧ ∀ x, Of v' x → w.heap.size ≤ x := by
  have kn := fun (w : World) (a : Option Addr) (n c : Nat) => Lib.run_eql_slice_nil (P := Try.prog) w 24 48 a n c 0 0 Try.underlying24
  have HV := hid (hv.keep ((Fr.refl No w).alloc (.cells #[] 48)))
  obtain ⟨A, c, rfl, hc, hlen, hr⟩ := hv
  cases A with
  | none =>
    have h0 : l.length = 0 := by
      rcases Nat.eq_zero_or_pos l.length with h | h
      · exact h
      · obtain ⟨b, off, hA, _⟩ := hr h; cases hA
    have hl0 : l = [] := List.eq_nil_of_length_eq_zero h0
    subst hl0
    go_enter Try.func38, Try.ntmps38
    go_wp2_with fail
    go_ret
    exact ⟨_, rfl, Own.nil _ _ _, Fr.refl _ _, fun x hx => absurd hx Of_none⟩
  | some a =>
    have HO := hid (show Own 48 2 (w.alloc (.cells #[] 48)) (.slice (some ⟨w.heap.size, 0, none⟩) 0 0) 0 [] from Own.new w _ #[] 0 0 [] (by omega) (by omega) (by simp) (by simp))
    have HL := hid hl
    clear hlen hr hl hc
    go_enter Try.func38, Try.ntmps38
    go_wp2_with (at_builtin; refine wpl_app _ rfl (.tmp 5) (.tmp 6) _ rfl 48 (.agg #[.int .i64 0, .int .u32 0]) 2 16 Try.underlying24 infoN (by rfl) _ 0 [] rfl HO.out _ l.length (ncells l) rfl HV.out (ncells_one l) (by have := HL.out; simp only [maxLen]; omega) (by have := HL.out; omega) ?_; intro v1 w1 O1 F1 G1)
    go_ret
    refine ⟨v1, rfl, by simpa [OwnN] using O1, ((Fr.refl No w).alloc _).fresh F1 (fun k hk => by have := Of_some.1 hk; dsimp only at this; omega), fun x hx => ?_⟩
    rcases G1 x hx with h | h
    · have := Of_some.1 h; dsimp only at this; omega
    · rw [h]; exact ((Fr.refl No w).alloc _).size
end Go.Proofs.Ytfmoagpfgkokcaa
