import Derived.Test.YtfbhcapcnkcfdaaLogG
import Derived.Test.YtfbhcapcnkcfdaaRefMid
/-! The contracts of the document's log: Whole. -/
namespace Go.Proofs.Ytfbhcapcnkcfdaa
open Go.RowKit
set_option linter.unusedVariables false
set_option linter.unusedSimpArgs false

set_option maxRecDepth 100000 in
set_option maxHeartbeats 1000000 in
theorem number_ref (y : Value) (ys : List UInt8) (w : World) (hy : RdB w y ys) (hl : 4 ≤ ys.length) (hm : ys.length ≤ 140737488355328) :
    Calls Try.prog 58 #[y] w fun en w' => en = .returned (.int .i64 (num4 ys)) ∧ ∃ n, w' = w.drewN n := by
  obtain ⟨A, c, rfl, hc⟩ := hy.slice
  obtain ⟨b, off, hA, h0⟩ := hy.at_ (k := 0) (by omega)
  subst hA
  obtain ⟨b1, off1, e1, h1⟩ := hy.at_ (k := 1) (by omega)
  obtain ⟨b2, off2, e2, h2⟩ := hy.at_ (k := 2) (by omega)
  obtain ⟨b3, off3, e3, h3⟩ := hy.at_ (k := 3) (by omega)
  injection e1 with e1
  injection e1 with e1 e1'
  injection e2 with e2
  injection e2 with e2 e2'
  injection e3 with e3
  injection e3 with e3 e3'
  subst e1 e1' e2 e2' e3 e3'
  rw [Nat.add_zero] at h0
  obtain ⟨x0, g0⟩ : ∃ x : Nat, x = (ys[0]'(by omega)).toNat := ⟨_, rfl⟩
  obtain ⟨x1, g1⟩ : ∃ x : Nat, x = (ys[1]'(by omega)).toNat := ⟨_, rfl⟩
  obtain ⟨x2, g2⟩ : ∃ x : Nat, x = (ys[2]'(by omega)).toNat := ⟨_, rfl⟩
  obtain ⟨x3, g3⟩ : ∃ x : Nat, x = (ys[3]'(by omega)).toNat := ⟨_, rfl⟩
  have m0 : x0 < 256 := by rw [g0]; exact (ys[0]'(by omega)).toNat_lt
  have m1 : x1 < 256 := by rw [g1]; exact (ys[1]'(by omega)).toNat_lt
  have m2 : x2 < 256 := by rw [g2]; exact (ys[2]'(by omega)).toNat_lt
  have m3 : x3 < 256 := by rw [g3]; exact (ys[3]'(by omega)).toNat_lt
  rw [← g0] at h0
  rw [← g1] at h1
  rw [← g2] at h2
  rw [← g3] at h3
  have HE : Hid (num4 ys = x0 * 16777216 + x1 * 65536 + x2 * 256 + x3) := by
    unfold Hid num4
    rw [g0, g1, g2, g3]
    simp only [List.getD, List.getElem?_eq_getElem (show 0 < ys.length by omega), List.getElem?_eq_getElem (show 1 < ys.length by omega), List.getElem?_eq_getElem (show 2 < ys.length by omega), List.getElem?_eq_getElem (show 3 < ys.length by omega), Option.getD_some]
  clear g0 g1 g2 g3 hy
  have l0 : 0 < ys.length := by omega
  have l1 : 1 < ys.length := by omega
  have l2 : 2 < ys.length := by omega
  have l3 : 3 < ys.length := by omega
  go_enter Try.func58, Try.ntmps58
  go_wp2
  go_quiet (fail)
  go_wp2
  go_ret
  refine ⟨congrArg (fun i => Ending.returned (.int .i64 i)) ?_, _, rfl⟩
  have h := HE.out
  go_light
  omega

/-- how Whole stands -/
structure InWhole (w wr : World) (vb vo : Value) (bs : List UInt8) (ps : List (Value × List UInt8)) (at_ : Nat) : Prop where
  out : OwnL wr w.heap.size vo ps
  fr : Fr No w wr
  whole : wholeL bs = ps.map (·.2) ++ wholeL (bs.drop at_)
  sum : at_ = (recsB (ps.map (·.2))).length
  le : at_ ≤ bs.length
  few : ps.length ≤ at_
theorem InWhole.keep {w wr w' : World} {vb vo : Value} {bs : List UInt8} {ps : List (Value × List UInt8)} {at_ : Nat} (h : InWhole w wr vb vo bs ps at_) (hf : Fr No wr w') : InWhole w w' vb vo bs ps at_ :=
  ⟨h.out.keep_no hf, h.fr.fresh_no hf, h.whole, h.sum, h.le, h.few⟩
theorem InWhole.turn {w w1 w2 : World} {vb vo v2 vr : Value} {bs r : List UInt8} {ps : List (Value × List UInt8)} {at_ : Nat} {o : Obj} (h : InWhole w w1 vb vo bs ps at_) (hn : nextL (bs.drop at_) = some r) (hr : OwnB 5 w1 vr r) (hrn : ∀ k, Of vr k → w.heap.size ≤ k)
    (ho : Own 22 1 w2 v2 (ps.length + 1) (ps.map (·.1) ++ [vr])) (hf : Fr (Of vo) (w1.alloc o) w2) (hg : ∀ k, Of v2 k → Of vo k ∨ k = (w1.alloc o).heap.size) : InWhole w w2 vb v2 bs (ps ++ [(vr, r)]) (at_ + (8 + r.length)) := by
  have K := h.keep ((Fr.refl No w1).alloc o)
  have hb : w.heap.size ≤ (w1.alloc o).heap.size := K.fr.size
  have O2 := K.out.push (p := (vr, r)) (hr.alloc o) hrn hb ho hf (fun k hk => (hg k hk).imp id (fun e => by omega))
  have hs := nextL_some hn
  simp only [List.length_drop] at hs
  refine ⟨O2, K.fr.fresh hf (fun k hk => h.out.new k hk), ?_, ?_, ?_, ?_⟩
  · rw [h.whole, wholeL_some hn, List.drop_drop]; simp
  · rw [List.map_append, List.map_cons, List.map_nil, recsB_snoc_len, ← h.sum]
  · have := h.le; omega
  · have := h.few; simp; omega
def RetWhole (w : World) (bs : List UInt8) : Ending → World → Prop := fun e w' => ∃ vo ps, e = .returned (.tuple #[vo, .int .i64 (recsB (wholeL bs)).length]) ∧ OwnL w' w.heap.size vo ps ∧ ps.map (·.2) = wholeL bs ∧ Fr No w w'

theorem whole_end {w w' : World} {bs : List UInt8} {vo : Value} {ps : List (Value × List UInt8)} {at_ : Nat} (h1 : at_ = (recsB (wholeL bs)).length) (h2 : OwnL w' w.heap.size vo ps) (h3 : ps.map (·.2) = wholeL bs) (h4 : Fr No w w') : RetWhole w bs (.returned (.tuple #[vo, .int .i64 at_])) w' :=
  ⟨vo, ps, by rw [h1], h2, h3, h4⟩

set_option maxRecDepth 100000 in
set_option maxHeartbeats 4000000 in
theorem whole_ref (y : Value) (bs : List UInt8) (w : World) (hy : RdB w y bs) (hl : bs.length ≤ 67108864) :
    Calls Try.prog 49 #[y] w (RetWhole w bs) := by
  obtain ⟨A, c, rfl, hc⟩ := hy.slice
  have HY := hid hy
  clear hy
  go_enter Try.func49, Try.ntmps49
  go_wp2_with fail
  go_loopg [4, 5] bs.length (fun q v4 v5 w' => ∃ (vo : Value) (ps : List (Value × List UInt8)) (at_ : Nat), v4 = vo ∧ v5 = .int .i64 at_ ∧ Hid (q = bs.length - at_) ∧ Hid (InWhole w w' (.slice A bs.length c) vo bs ps at_))
  case atStart => exact ⟨_, [], 0, rfl, rfl, rfl, OwnL.nil _ _, Fr.refl _ _, by simp, rfl, Nat.zero_le _, Nat.le_refl _⟩
  case round =>
    obtain ⟨vo, ps, at_, rfl, rfl, HQ, I⟩ := hrel
    obtain ⟨Ao, co, rfl, hco, hcm⟩ := I.out.out.row.slice
    have l0 : at_ ≤ bs.length := I.out.le
    have l1 : ps.length ≤ at_ := I.out.few
    have m0 : (0 : Int) ≤ at_ := by omega
    have HEND := hid (show nextL (bs.drop at_) = none → at_ = (recsB (wholeL bs)).length ∧ ps.map (·.2) = wholeL bs from fun h => by
      have hw := I.out.whole
      rw [wholeL_none h, List.append_nil] at hw
      exact ⟨by rw [hw]; exact I.out.sum, hw.symm⟩)
    by_cases c8 : bs.length - at_ < 8
    · have c8' : ¬ (8 : Int) ≤ (bs.length : Int) - at_ := by omega
      have hn : nextL (bs.drop at_) = none := by unfold nextL; rw [if_pos (by simp; omega)]
      have HE := hid (HEND.out hn)
      clear hn
      go_wp2_with fail
      go_ret2
      exact whole_end HE.out.1 (I.out.out) HE.out.2 (I.out.fr)
    · have c8' : (8 : Int) ≤ (bs.length : Int) - at_ := by omega
      obtain ⟨b, off, hA, hcell⟩ := HY.out.at_ (k := 0) (by omega)
      subst hA
      obtain ⟨m, hm⟩ : ∃ m, num4 (bs.drop at_) = m := ⟨_, rfl⟩
      have hm4 := num4_lt (bs.drop at_)
      rw [hm] at hm4
      have HM := hid hm
      have hdl : (bs.drop at_).length = bs.length - at_ := by simp
      have HDL := hid hdl
      have hd0 := (HY.out.too I.out.fr).drop (m := at_) (c' := c - at_) l0 (by omega)
      rw [if_neg (by omega)] at hd0
      have HD0 := hid (show RdB wr (.slice (some ⟨b, off + at_, none⟩) (bs.length - at_) (c - at_)) (bs.drop at_) from by simpa [add_off] using hd0)
      have i0 : (at_ : Int) ≤ bs.length := by omega
      have i1 : (at_ : Int) ≤ c := by omega
      have n0 : ¬ c = at_ := by omega
      clear hd0 hcell hm hdl
      go_wp2_with fail
      refine (number_ref _ (bs.drop at_) _ HD0.out (by rw [HDL.out]; omega) (by rw [HDL.out]; omega)).mono ?_
      rintro e w1 ⟨rfl, n1, hw1⟩
      rw [HM.out]
      have F1 : Fr No wr w1 := by rw [hw1]; exact (Fr.refl No wr).drewN n1
      have I1 := hid (I.out.keep F1)
      clear hw1 F1
      by_cases c2 : m < 1 ∨ 1048576 < m ∨ bs.length - at_ < 8 + m
      · have hn : nextL (bs.drop at_) = none := by unfold nextL; rw [if_neg (by rw [HDL.out]; omega), HM.out, HDL.out, if_pos c2]
        have HE := hid (HEND.out hn)
        have c3 : (decide ((m : Int) < 1) = true) ∨ (decide ((m : Int) < 1) = false ∧ decide ((1048576 : Int) < m) = true) ∨ (decide ((m : Int) < 1) = false ∧ decide ((1048576 : Int) < m) = false ∧ (bs.length : Int) - at_ - 8 < m) := by simp; omega
        clear hn c2
        rcases c3 with c3 | ⟨c3, c4⟩ | ⟨c3, c4, c5⟩
        all_goals
          go_wp2_with fail
          go_ret2
          exact whole_end HE.out.1 (I1.out.out) HE.out.2 (I1.out.fr)
      · have c3 : decide ((m : Int) < 1) = false := by simp; omega
        have c4 : decide ((1048576 : Int) < m) = false := by simp; omega
        have c5 : ¬ (bs.length : Int) - at_ - 8 < m := by omega
        have hd4 := (HY.out.too I1.out.fr).drop (m := at_ + 4) (c' := c - (at_ + 4)) (by omega) (by omega)
        rw [if_neg (by omega)] at hd4
        have HD4 := hid (show RdB w1 (.slice (some ⟨b, off + (at_ + 4), none⟩) (bs.length - (at_ + 4)) (c - (at_ + 4))) (bs.drop (at_ + 4)) from by simpa [add_off] using hd4)
        have hd8 := (HY.out.too I1.out.fr).drop (m := at_ + 8) (c' := c - (at_ + 8)) (by omega) (by omega)
        rw [if_neg (by omega)] at hd8
        have hd8l : (bs.drop (at_ + 8)).length = bs.length - (at_ + 8) := by simp
        rw [← hd8l] at hd8
        have hr8 := hd8.take (m := m) (c' := c - (at_ + 8)) (by omega) (by omega)
        obtain ⟨rec, hrec⟩ : ∃ rec, (bs.drop (at_ + 8)).take m = rec := ⟨_, rfl⟩
        rw [hrec] at hr8
        have hrl : rec.length = m := by rw [← hrec, List.length_take, hd8l]; omega
        have HR8 := hid (show RdB w1 (.slice (some ⟨b, off + (at_ + 8), none⟩) m (c - (at_ + 8))) rec from by simpa [add_off] using hr8)
        have HRL := hid hrl
        have HD4L := hid (show (bs.drop (at_ + 4)).length = bs.length - (at_ + 4) by simp)
        have HNX := hid (show nextL (bs.drop at_) = if num4 (bs.drop (at_ + 4)) = crc rec then some rec else none by
          unfold nextL
          rw [if_neg (by rw [HDL.out]; omega), HM.out, HDL.out, if_neg c2, List.drop_drop, List.drop_drop, hrec])
        have n4 : ¬ c = at_ + 4 := by omega
        have n8 : ¬ c = at_ + 8 := by omega
        clear hd4 hd8 hd8l hr8 hrec hrl c2
        have j4 : (0 : Int) ≤ (at_ : Int) + 4 := by omega
        have j4' : (at_ : Int) + 4 ≤ bs.length := by omega
        have t4 : ((at_ : Int) + 4).toNat = at_ + 4 := by omega
        have HCR := hid (crc_lt rec)
        have HQ1 := hid (show 4 ≤ (bs.drop (at_ + 4)).length by rw [HD4L.out]; omega)
        have HQ2 := hid (show (bs.drop (at_ + 4)).length ≤ 140737488355328 by rw [HD4L.out]; omega)
        have HQ3 := hid (show rec.length ≤ 140737488355328 by have := HRL.out; omega)
        by_cases cq : num4 (bs.drop (at_ + 4)) = crc rec
        · have hb : (((crc rec : Nat) : Int) != ((num4 (bs.drop (at_ + 4)) : Nat) : Int)) = false := by simp [cq]
          have HNS := hid (show nextL (bs.drop at_) = some rec by rw [HNX.out, if_pos cq])
          clear cq
          have wcr : IntKind.i64.wrap ((crc rec : Nat) : Int) = ((crc rec : Nat) : Int) := by have := HCR.out; rw [IntKind.wrap_i64]; omega
          have w4 : IntKind.i64.wrap ((at_ : Int) + 4) = (at_ : Int) + 4 := by rw [IntKind.wrap_i64]; omega
          go_wp2_with fail
          go_quiet ((first
            | (go_at_call 58; exact Calls.quiet_of (number_ref _ _ _ (HD4.out.drewN _) HQ1.out HQ2.out))
            | (go_at_call 46; exact Calls.quiet_of_same (crc_ref _ _ _ (HR8.out.drewN _) HQ3.out))))
          rw [show at_ + 8 + m - (at_ + 8) = m by omega]
          clear w4 wcr
          have I2 := hid (I1.out.keep ((Fr.refl No w1).drewN nq))
          have HR2 := hid (HR8.out.drewN nq)
          generalize w1.drewN nq = w2 at I2 HR2 ⊢
          have hb0 : ([] : List UInt8).length + rec.length ≤ 140737488355328 := by have := HQ3.out; simp; omega
          have hb1 : ps.length + 1 ≤ maxLen := by simp only [maxLen]; omega
          have hb2 : (ps.length + 1) * 24 ≤ 140737488355328 := by omega
          have HMR := hid (show m = rec.length from HRL.out.symm)
          clear I1 HR8 HD4 hb
          go_wp2_with (first
            | (at_builtin; refine wpl_appB _ rfl (.tmp 51) (.tmp 52) _ rfl 5 Try.underlying22 infoU8 (.slice none 0 0) [] rfl (OwnB.nil _ _) (.slice (some ⟨b, off + (at_ + 8), none⟩) m (c - (at_ + 8))) rec rfl HR2.out hb0 ?_; intro v3 w3 O3 F3 G3; have O4 := hid (show OwnB 5 w3 v3 rec from O3.out); have I3 := hid (I2.out.keep (F3.out.mono (fun k hk h => absurd h Of_none))); have N3 := hid (show ∀ k, Of v3 k → w.heap.size ≤ k from fun k hk => by rcases G3.out k hk with h | h; exact absurd h Of_none; exact Nat.le_trans I2.out.fr.size h); obtain ⟨A3, c3', rfl, hc3'⟩ := O4.out.slice; have HROW := hid (I3.out.out.row.keep ((Fr.refl No w3).alloc (.cells #[.slice A3 rec.length c3'] 22)) (fun k _ => not_no k)); clear O3 F3 G3)
            | (at_builtin; refine wpl_app _ rfl (.tmp 50) (.tmp 54) _ rfl 22 _ 1 24 Try.underlying31 infoS (by rfl) (.slice Ao ps.length co) ps.length (ps.map (·.1)) rfl HROW.out (.slice (some ⟨w3.heap.size, 0, none⟩) 1 1) 1 [.slice A3 rec.length c3'] rfl (Rd.lit1 w3 22 #[.slice A3 rec.length c3'] 1 rfl) (by intro u hu; simp only [List.mem_singleton] at hu; subst hu; rfl) hb1 hb2 ?_; intro v5 w5 o5 f5 g5; have I5 := hid (I3.out.turn (o := .cells #[.slice A3 rec.length c3'] 22) HNS.out O4.out N3.out o5 f5 g5); clear o5 f5 g5))
          go_roundg (bs.length - (at_ + (8 + rec.length)))
          case measure => have := HQ.out; have := HMR.out; omega
          case rel => exact ⟨_, _, at_ + (8 + rec.length), rfl, by rw [← HMR.out]; go_num, rfl, I5⟩
        · have hb : (((crc rec : Nat) : Int) != ((num4 (bs.drop (at_ + 4)) : Nat) : Int)) = true := by rw [bne_iff_ne]; omega
          have HE := hid (HEND.out (by rw [HNX.out, if_neg cq]))
          clear cq
          have wcr : IntKind.i64.wrap ((crc rec : Nat) : Int) = ((crc rec : Nat) : Int) := by have := HCR.out; rw [IntKind.wrap_i64]; omega
          have w4 : IntKind.i64.wrap ((at_ : Int) + 4) = (at_ : Int) + 4 := by rw [IntKind.wrap_i64]; omega
          go_wp2_with fail
          go_quiet ((first
            | (go_at_call 58; exact Calls.quiet_of (number_ref _ _ _ (HD4.out.drewN _) HQ1.out HQ2.out))
            | (go_at_call 46; exact Calls.quiet_of_same (crc_ref _ _ _ (HR8.out.drewN _) HQ3.out))))
          clear w4 wcr
          go_wp2_with fail
          go_ret2
          exact whole_end HE.out.1 (I1.out.out.keep_no ((Fr.refl No _).drewN _)) HE.out.2 (I1.out.fr.drewN _)
end Go.Proofs.Ytfbhcapcnkcfdaa
