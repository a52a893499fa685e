import Derived.Test.YtfmoagpfgkokcaaGI
/-! Rests; entries with one need. -/
namespace Go.Proofs.Ytfmoagpfgkokcaa
open Go.RowKit
set_option linter.unusedVariables false
set_option linter.unusedSimpArgs false

def restE (fn epoch : Int) (p : K2 × Ev) : Bool := decide (p.2.ep < epoch) && restsB p.2.fn p.2.needs fn
theorem any_lessE {c : K2 × Ev → Bool} {l : List (K2 × Ev)} {q : K2 × Ev} (hn : (l.map (·.1)).Nodup) (hq : q ∈ l) (hc : c q = false) : l.any c = (l.filter (fun p => decide (p.1 ≠ q.1))).any c := by
  rw [Bool.eq_iff_iff, List.any_eq_true, List.any_eq_true]
  constructor
  · rintro ⟨p, hp, hpc⟩
    refine ⟨p, List.mem_filter.2 ⟨hp, ?_⟩, hpc⟩
    simp only [decide_eq_true_eq]
    intro e
    have := same_of_nodup (·.1) l hn p hp q hq e
    subst this
    rw [hc] at hpc
    cases hpc
  · rintro ⟨p, hp, hpc⟩
    exact ⟨p, (List.mem_filter.1 hp).1, hpc⟩
set_option maxRecDepth 100000 in
set_option maxHeartbeats 2000000 in
theorem rests_cc {w : World} {g b fb : Nat} {ms : List (K2 × Ev)} {fs : List (Int × Int)} (h : IsC w g b fb ms fs) (fn epoch : Int) :
    Calls Try.prog 16 #[.pointer (some ⟨g, 0, none⟩), .int .i64 fn, .int .i64 epoch] w fun en w' => en = .returned (.bool (ms.any (restE fn epoch))) ∧ Fr No w w' := by
  obtain ⟨c0, c1, cf⟩ := h.blk.pair
  obtain ⟨it, hrng, hit⟩ := run_rangeK (P := Try.prog) (T := 64) (K := 72) (E := 28) (enc := enc2) Try.underlying64 h.map
  have hnd : (ms.map (·.1)).Nodup := by have := h.map.nodup; rwa [valsE_keys] at this
  have HN := hid hnd
  have HIT := hid hit
  have H := hid h
  clear hnd hit h
  go_enter Try.func16, Try.ntmps16
  go_wp2_with fail
  refine (right_yes H.out.blk).mono ?_
  rintro en wx ⟨rfl, rfl⟩
  go_wp2_with fail
  go_loopg [17] (ms.length + 1) (fun q v17 w' => ∃ left : List (K2 × Ev), q = left.length + 1 ∧ Hid (IterAt enc2 w' wx.heap.size b (valsE ms) (valsE left)) ∧ Hid (Fr No wx w') ∧ Hid (left.Sublist ms) ∧ Hid (ms.any (restE fn epoch) = left.any (restE fn epoch)))
  case atStart => exact ⟨ms, rfl, HIT.out, (Fr.refl No wx).alloc _, List.Sublist.refl _, rfl⟩
  case round =>
    obtain ⟨left, hq, HI, HF, HL, HA⟩ := hrel
    have HQ := hid hq
    clear hq HIT
    rcases HI.out.step keyOK2 0 with ⟨hl, hnext⟩ | ⟨p, hp, w2, hnext, hent, hi2, hf2⟩
    · have hle := valsE_nil hl
      have HR := hid (show ms.any (restE fn epoch) = false by rw [HA.out, hle]; rfl)
      clear hl hle
      go_wp2_with fail
      go_ret
      refine ⟨?_, HF.out⟩
      rw [HR.out]
      rfl
    · obtain ⟨⟨k, e⟩, hq, rfl⟩ := valsE_mem hp
      have HM := hid hq
      rw [valsE_filter] at hi2
      have HI2 := hid hi2
      have HF2 := hid (HF.out.trans hf2 (fun x hx e => absurd hx (by omega)))
      have HSUB := hid (List.filter_sublist.trans HL.out : (left.filter (fun p : K2 × Ev => decide (p.1 ≠ k))).Sublist ms)
      have HND := hid (HN.out.sublist (HL.out.map (·.1)))
      have HE := hid ((H.out.rows _ (HL.out.subset hq)).keep HF2.out)
      obtain ⟨A, c, Ac, nc, cc, Ax, nx, cx, hv, hvc, hvx⟩ := Ev.slice HE.out
      obtain ⟨k0, k1⟩ := k
      obtain ⟨a0, a1, a2, a3, a4, cd, cv, ex, xv, ns, nv⟩ := e
      replace hv : nv = .slice A ns.length c := hv
      replace hvc : cv = .slice Ac nc cc := hvc
      replace hvx : xv = .slice Ax nx cx := hvx
      subst hv hvc hvx
      dsimp only at hnext hent
      replace hnext : (Instr.next (.pointer (some ⟨wx.heap.size, 0, none⟩)) false 0).run Try.prog wr = .ok (.tuple #[.bool true, .agg #[.int .i64 k0, .int .i64 k1], .agg #[.int .i64 a0, .int .i64 a1, .int .i64 a2, .int .i64 a3, .int .i64 a4, .slice Ac nc cc, .slice Ax nx cx, .slice A ns.length c]]) w2 := hnext
      replace hent : (Instr.entry (.pointer (some ⟨wx.heap.size, 0, none⟩))).run Try.prog w2 = .ok (.tuple #[.agg #[.int .i64 k0, .int .i64 k1], .agg #[.int .i64 a0, .int .i64 a1, .int .i64 a2, .int .i64 a3, .int .i64 a4, .slice Ac nc cc, .slice Ax nx cx, .slice A ns.length c]]) w2 := hent
      clear hp hq hi2 hf2
      have FX := hid ((Fr.refl No w2).alloc (.cells #[.int .i64 a0, .int .i64 a1, .int .i64 a2, .int .i64 a3, .int .i64 a4, .slice Ac nc cc, .slice Ax nx cx, .slice A ns.length c] 28))
      have I3 := hid (HI2.out.keep FX.out (not_no _) (not_no _))
      have HF3 := hid (HF2.out.fresh_no FX.out)
      by_cases d1 : a1 < epoch
      · go_wp2_with fail
        refine (rests_c (HE.out.nd.keep FX.out) (Nat.le_trans (Nat.le_mul_of_pos_right _ (by decide)) HE.out.nl) a3 a4 fn).mono ?_
        rintro en w3 ⟨rfl, f3⟩
        have HF4 := hid (HF3.out.fresh_no f3)
        have HI4 := hid (I3.out.keep f3 (not_no _) (not_no _))
        have HD := hid d1
        clear f3 hnext hent
        cases hr : restsB a3 ns fn with
        | true =>
          have HR := hid (show ms.any (restE fn epoch) = true by
            rw [HA.out]
            refine List.any_eq_true.2 ⟨_, HM.out, ?_⟩
            unfold restE
            simp [hr, HD.out])
          clear hr
          go_wp2_with fail
          go_ret
          refine ⟨?_, HF4.out⟩
          rw [HR.out]
          rfl
        | false =>
          have HNR := hid (any_lessE (c := restE fn epoch) HND.out HM.out (by unfold restE; simp [hr]))
          clear hr
          go_wp2_with fail
          go_roundg ((left.filter (fun p : K2 × Ev => decide (p.1 ≠ (k0, k1)))).length + 1)
          case measure => have := HQ.out; have : (left.filter (fun p : K2 × Ev => decide (p.1 ≠ (k0, k1)))).length < left.length := filter_less HM.out; omega
          case rel => exact ⟨_, rfl, HI4, HF4, HSUB, HA.out.trans HNR.out⟩
      · have HNR := hid (any_lessE (c := restE fn epoch) HND.out HM.out (by unfold restE; simp; intro h; exact absurd h d1))
        go_wp2_with fail
        go_roundg ((left.filter (fun p : K2 × Ev => decide (p.1 ≠ (k0, k1)))).length + 1)
        case measure => have := HQ.out; have : (left.filter (fun p : K2 × Ev => decide (p.1 ≠ (k0, k1)))).length < left.length := filter_less HM.out; omega
        case rel => exact ⟨_, rfl, I3, HF3, HSUB, HA.out.trans HNR.out⟩
end Go.Proofs.Ytfmoagpfgkokcaa
