import Derived.Test.YtdlabicepppfaaaBytesG
import Derived.StillTailTactics
import Derived.Deep.RegionHeld3
/-! BytesBurst: if up to four bytes next to each other are others, the sum is another one. -/
namespace Go.Proofs.Ytdlabicepppfaaa
open Go.RowKit
set_option linter.unusedVariables false

set_option maxRecDepth 100000 in
set_option maxHeartbeats 1000000 in
theorem bytesBurst_small (y : Value) (xs : List UInt8) (a : Int) (t0 t1 t2 t3 : UInt8) (w : World) (hy : RdB w y xs) (h0 : xs.length = 0 ∨ 500 < xs.length) :
    Calls Try.prog 7 #[y, .int .i64 a, .agg #[bv t0, bv t1, bv t2, bv t3]] w (RetT w) := by
  obtain ⟨A, c, rfl, hc⟩ := hy.slice
  clear hy
  have b1 : (((xs.length : Int) == 0) || decide (500 < xs.length)) = true := by
    rcases h0 with h | h
    · simp [h]
    · simp [h]
  rcases h0 with h | h
  · have h2 : ((xs.length : Int) == 0) = true := by simp [h]
    clear b1
    go_enter Try.func7, Try.ntmps7
    go_wp2_with fail
    refine (awake_c _).mono ?_
    rintro e w5 ⟨rfl, B⟩
    have F5 := hid (((Fr.refl No w).alloc _).fresh_no B)
    clear B
    go_wp2_with fail
    go_ret
    exact ⟨rfl, F5.out⟩
  · have h2 : ((xs.length : Int) == 0) = false := by rw [beq_eq_false_iff_ne]; omega
    clear b1
    go_enter Try.func7, Try.ntmps7
    go_wp2_with fail
    refine (awake_c _).mono ?_
    rintro e w5 ⟨rfl, B⟩
    have F5 := hid (((Fr.refl No w).alloc _).fresh_no B)
    clear B
    go_wp2_with fail
    go_ret
    exact ⟨rfl, F5.out⟩

set_option maxRecDepth 100000 in
set_option maxHeartbeats 2000000 in
theorem bytesBurst_c (y : Value) (xs : List UInt8) (a : Int) (t0 t1 t2 t3 : UInt8) (w : World) (hy : RdB w y xs) (h0 : 0 < xs.length) (h500 : xs.length ≤ 500) (ha : -9223372036854775808 ≤ a) (ha2 : a ≤ 9223372036854775807) :
    Calls Try.prog 7 #[y, .int .i64 a, .agg #[bv t0, bv t1, bv t2, bv t3]] w (RetT w) := by
  obtain ⟨A, c, rfl, hc⟩ := hy.slice
  have HY := hid hy
  have hm0 := Int.emod_nonneg a (show (xs.length : Int) ≠ 0 by omega)
  have hm1 := Int.emod_lt_of_pos a (show (0 : Int) < xs.length by omega)
  obtain ⟨p, hp⟩ := Int.eq_ofNat_of_zero_le hm0
  rw [hp] at hm1
  have hpl : p < xs.length := by omega
  have HA := hid ha
  have HA2 := hid ha2
  have HP := hid hp
  have h2 : ((xs.length : Int) == 0) = false := by rw [beq_eq_false_iff_ne]; omega
  have h3 : decide (500 < xs.length) = false := by simp; omega
  have HL := hid (show xs.length ≤ 140737488355328 by omega)
  clear hy ha ha2 hp hm0 hm1
  go_enter Try.func7, Try.ntmps7
  go_wp2_with fail
  refine (pick_c a xs.length HA.out HA2.out (by omega) (by omega) _).mono ?_
  rintro e wx ⟨he, rfl⟩
  rw [HP.out] at he
  subst he
  go_wp2_with fail
  refine (copy_c _ xs _ (HY.out.alloc _) HL.out).mono ?_
  rintro e w1 ⟨v1, rfl, A', B, C⟩
  obtain ⟨g, cap, rfl, hcap, hgl⟩ := A'.form h0
  have O1 := hid A'
  have hgw : w.heap.size < g := by
    rcases C g (Of_some.2 rfl) with h | h
    · exact absurd h (not_no _)
    · simp at h; omega
  have F1 := hid (((Fr.refl No w).alloc _).fresh_no B)
  have HB1 := hid ((Blk.new w _ _).keep B (not_no _))
  clear A' B C
  go_wp2_with fail
  have HTS := hid (show [t0, t1, t2, t3].length = 4 from rfl)
  go_loopg [8, 9] 4 (fun q v8 v9 w' => ∃ (ch : Bool) (i : Nat) (ds : List UInt8), v8 = .bool ch ∧ v9 = .int .i64 i ∧ i ≤ 4 ∧ q = 4 - i ∧ p + i ≤ xs.length ∧ Hid (ds.length = xs.length) ∧
    Hid (∀ k x t, k < i → xs[p + k]? = some x → [t0, t1, t2, t3][k]? = some t → ds[p + k]? = some (x ^^^ t)) ∧ Hid (∀ j, (j < p ∨ p + i ≤ j) → ds[j]? = xs[j]?) ∧
    Hid (ch = true ↔ ∃ k t, k < i ∧ [t0, t1, t2, t3][k]? = some t ∧ t ≠ 0) ∧ Hid (OwnB 5 w' (.slice (some ⟨g, 0, none⟩) xs.length cap) ds) ∧ Hid (Fr No w w') ∧ Hid (Blk w' w.heap.size 46 #[bv t0, bv t1, bv t2, bv t3]))
  case atStart => exact ⟨false, 0, xs, rfl, rfl, by omega, rfl, by omega, rfl, fun k x t hk => by omega, fun j _ => rfl, by simp [Hid], O1, F1, HB1⟩
  case round =>
    obtain ⟨ch, i, ds, rfl, rfl, hi, hq, hpi, HD, HIN, HOUT, HCH, HO, HF, HB⟩ := hrel
    have HQ := hid hq
    clear hq
    by_cases c1 : i < 4 ∧ p + i < xs.length
    · obtain ⟨c1, c2⟩ := c1
      obtain ⟨ti, hti⟩ : ∃ t, [t0, t1, t2, t3][i]? = some t := ⟨[t0, t1, t2, t3][i]'(by simp; omega), by simp [c1]⟩
      have kt : wr.cell? ⟨w.heap.size, i, none⟩ = some (.int .u8 ti.toNat) := by
        rw [HB.out.cell i]
        have : (#[bv t0, bv t1, bv t2, bv t3] : Array Value)[i]? = ([t0, t1, t2, t3][i]?).map bv := by
          rcases i with _ | _ | _ | _ | i <;> first | rfl | (exfalso; omega)
        rw [this, hti]; rfl
      obtain ⟨xi, hxi⟩ : ∃ x, xs[p + i]? = some x := ⟨xs[p + i]'c2, by simp [c2]⟩
      have kx : wr.cell? ⟨g, p + i, none⟩ = some (.int .u8 xi.toNat) := HO.out.cell (by rw [HOUT.out _ (.inr (by omega))]; exact hxi)
      have kf := HO.out.frozen HD.out.symm (p + i)
      have HTI := hid hti
      have HXI := hid hxi
      have HXO := hid (xor_u8 xi ti)
      have htl := ti.toNat_lt
      have i4 : (i : Int) < 4 := by omega
      clear hti hxi
      go_wp2
      have s1 : IntKind.i64.wrap ((p : Int) + (i : Int)) = (p : Int) + i := by rw [IntKind.wrap_i64]; omega
      have s2 : (0 : Int) ≤ (p : Int) + i := by omega
      have s3 : ((p : Int) + (i : Int)).toNat = p + i := by omega
      have s4 : (p : Int) + (i : Int) < xs.length := by omega
      refine wp_region_still_tail 11 (by kernel_rfl) (by kernel_rfl) ?_
      simp only [List.take_succ_cons, List.take_zero, List.drop_succ_cons, List.drop_zero]
      repeat still_step
      refine wpStill_nil ?_
      change wpList _ _ _ _ _ wr.drew
      clear s1 s2 s3 s4
      have hgne : ¬ g = w.heap.size := by omega
      have hgne2 : ¬ w.heap.size = g := by omega
      obtain ⟨b', hb'⟩ : ∃ b' : Bool, b' = (ch || ((ti.toNat : Int) != 0)) := ⟨_, rfl⟩
      have HBB := hid hb'
      clear hb'
      have hin' : ∀ k x t, k < i + 1 → xs[p + k]? = some x → [t0, t1, t2, t3][k]? = some t → (ds.set (p + i) (xi ^^^ ti))[p + k]? = some (x ^^^ t) := by
        intro k x t hk h1 h2
        by_cases hki : k = i
        · subst hki
          rw [List.getElem?_set_self (by have := HD.out; omega)]
          rw [HXI.out] at h1
          rw [HTI.out] at h2
          injection h1 with h1
          injection h2 with h2
          rw [h1, h2]
        · rw [List.getElem?_set_ne (by omega)]
          exact HIN.out k x t (by omega) h1 h2
      have hout' : ∀ j, (j < p ∨ p + (i + 1) ≤ j) → (ds.set (p + i) (xi ^^^ ti))[j]? = xs[j]? := by
        intro j hj
        rw [List.getElem?_set_ne (by omega)]
        exact HOUT.out j (by omega)
      have hch' : (ch || ((ti.toNat : Int) != 0)) = true ↔ ∃ k t, k < i + 1 ∧ [t0, t1, t2, t3][k]? = some t ∧ t ≠ 0 := by
        have ht0 : ((ti.toNat : Int) != 0) = true ↔ ti ≠ 0 := by
          rw [bne_iff_ne]
          constructor
          · intro h h2; subst h2; exact h rfl
          · intro h h2; exact h (UInt8.toNat_inj.1 (by simp; omega))
        rw [Bool.or_eq_true, HCH.out, ht0]
        constructor
        · rintro (⟨k, t, hk, h1, h2⟩ | h)
          · exact ⟨k, t, by omega, h1, h2⟩
          · exact ⟨i, ti, by omega, HTI.out, h⟩
        · rintro ⟨k, t, hk, h1, h2⟩
          by_cases hki : k = i
          · subst hki
            rw [HTI.out] at h1
            injection h1 with h1
            rw [h1]
            exact .inr h2
          · exact .inl ⟨k, t, by omega, h1, h2⟩
      have HIN2 := hid hin'
      have HOUT2 := hid hout'
      have HCH2 := hid hch'
      clear hin' hout' hch' HBB
      cases ch
      all_goals
        go_wp2
        go_roundg (4 - (i + 1))
        case measure => have := HQ.out; omega
        case rel =>
          rw [HXO.out]
          exact ⟨_, i + 1, ds.set (p + i) (xi ^^^ ti), rfl, by go_num, by omega, rfl, by omega, by simpa [Hid] using HD.out, HIN2, HOUT2, by simpa using HCH2, (HO.out.set HD.out.symm _ _).drewN 1, ((HF.out).setCell (by simp; omega) _).drew, (HB.out.far (by simp; omega) _).drew⟩
    · have hm : i = min 4 (xs.length - p) := by omega
      have HM := hid hm
      clear hm
      have HNE := hid (show ch = true → crc ds ≠ crc xs from fun h => burst_at xs ds [t0, t1, t2, t3] p i HD.out HM.out (by omega) rfl HIN.out HOUT.out (HCH.out.1 h))
      have c1' : i = 4 ∨ (i < 4 ∧ p + i = xs.length) := by omega
      clear c1
      rcases c1' with c1 | ⟨c1, c2⟩
      all_goals
        cases ch
        · go_wp2_with fail
          refine (awake_c _).mono ?_
          rintro e w5 ⟨rfl, B⟩
          have F5 := hid (HF.out.fresh_no B)
          clear B
          go_wp2_with fail
          go_ret
          exact ⟨rfl, F5.out⟩
        · have HYr := hid (HY.out.keep HF.out (fun k _ => not_no k))
          have hne : crc ds ≠ crc xs := HNE.out rfl
          have HNE2 := hid hne
          clear hne
          go_wp2_with fail
          refine (seal_c _ xs _ HYr.out (by omega)).mono ?_
          rintro e w2 ⟨v2, rfl, A', B, C⟩
          obtain ⟨A2, c2_, rfl, hc2⟩ := A'.slice
          have hsl : (sealB xs).length = xs.length + 4 := by simp [sealB, four]
          have hd4 := A'.rd.drop (m := xs.length) (c' := c2_ - xs.length) (by omega) (by omega)
          rw [if_neg (by omega), show (sealB xs).length - xs.length = 4 by omega, show (sealB xs).drop xs.length = four (crc xs) by simp [sealB]] at hd4
          rw [hsl] at hc2 A' ⊢
          have O2 := hid A'
          have HD4 := hid hd4
          have F2 := hid (HF.out.fresh_no B)
          have HO2 := hid (HO.out.rd.keep B (fun k _ => not_no k))
          have HY2 := hid (HYr.out.keep B (fun k _ => not_no k))
          have HDL := hid (show ds.length ≤ 140737488355328 by have := HD.out; omega)
          have HDL2 := hid (show ds.length + (four (crc xs)).length ≤ 140737488355328 by have := HD.out; simp [four]; omega)
          have HU := hid (show unsealB (ds ++ four (crc xs)) = ([], 12) by
            have hl : (ds ++ four (crc xs)).length = ds.length + 4 := by simp [four]
            unfold unsealB
            rw [if_neg (by omega), hl, show ds.length + 4 - 4 = ds.length by omega, List.drop_left, List.take_left]
            have := num4_four (crc xs) (crc_lt xs) []
            rw [List.append_nil] at this
            rw [this, if_pos (fun h => HNE2.out h.symm)])
          have HUL := hid (show (ds ++ four (crc xs)).length ≤ 140737488355000 by have := HD.out; simp [four]; omega)
          have q1 : (xs.length : Int) ≤ (xs.length : Int) + 4 := by omega
          have q2 : (xs.length : Int) + 4 ≤ c2_ := by omega
          have q3 : (0 : Int) ≤ xs.length := by omega
          clear A' B C hd4
          go_wp2_with fail
          go_region_held3 (fun w' => True) (trivial) ((first
            | (go_at_call 14; refine (copy_c _ ds _ (HO2.out.heap (by rfl)) HDL.out).mono ?_; rintro e w3 ⟨v3, rfl, A', B', C'⟩; have O3 := hid A'; have F3 := hid B'; have G3 := hid C'; clear A' B' C')
            | (refine step_appB _ (by rfl) (.tmp 70) (.tmp 74) _ (by rfl) 5 Try.underlying24 infoU8 _ ds (by rfl) (O3.out.heap (by rfl)) _ _ (by rfl) (((HD4.out.heap (by rfl)).keep F3.out (fun k _ => not_no k)).heap (by rfl)) HDL2.out ?_; intro v4 w4 O4 F4 G4)
            | (go_at_call 22; refine (unseal_c _ _ _ (O4.out.rd.heap (by rfl)) HUL.out _ HU.out).mono ?_; rintro e w5 ⟨v5, rfl, A', B', C'⟩; have F5 := hid B'; clear A' B' C')))
          have FA3 := hid (((Fr.refl No w2).drew).fresh_no F3.out)
          have FA4 := hid (FA3.out.fresh F4.out (fun k hk => by rcases G3.out k hk with h | h; exact absurd h (not_no _); exact h))
          have FA5 := hid (FA4.out.fresh_no F5.out)
          have HO5 := hid (HO2.out.keep FA5.out (fun k _ => not_no k))
          have HY5 := hid (HY2.out.keep FA5.out (fun k _ => not_no k))
          have FW5 := hid (F2.out.fresh_no FA5.out)
          have hcne : ((crc ds : Int) != (crc xs : Int)) = true := by rw [bne_iff_ne]; exact fun h => HNE2.out (by omega)
          go_wp2_with fail
          refine (crc_c _ ds _ HO5.out HDL.out).mono ?_
          rintro e wx ⟨rfl, rfl⟩
          go_wp2_with fail
          refine (crc_c _ xs _ HY5.out HL.out).mono ?_
          rintro e wx ⟨rfl, rfl⟩
          go_wp2_with fail
          refine (awake_c _).mono ?_
          rintro e w6 ⟨rfl, B⟩
          have F6 := hid (FW5.out.fresh_no B)
          clear B
          go_wp2_with fail
          go_ret
          exact ⟨rfl, F6.out⟩
end Go.Proofs.Ytdlabicepppfaaa
