import Derived.Test.YtdlabicepppfaaaBytesG
import Derived.StillTailTactics
/-! BytesSums: three lists held against each other bit by bit have their sums held so. -/
namespace Go.Proofs.Ytdlabicepppfaaa
open Go.RowKit
set_option linter.unusedVariables false

set_option maxRecDepth 100000 in
set_option maxHeartbeats 1000000 in
theorem bytesSums_c (x y z : Value) (xs ys zs : List UInt8) (w : World) (hx : RdB w x xs) (hy : RdB w y ys) (hz : RdB w z zs)
    (n : Nat) (hn : n = min (min (min xs.length ys.length) zs.length) 500) :
    Calls Try.prog 5 #[x, y, z] w (RetT w) := by
  obtain ⟨A, c, rfl, hc⟩ := hx.slice
  obtain ⟨A', c', rfl, hc'⟩ := hy.slice
  obtain ⟨A'', c'', rfl, hc''⟩ := hz.slice
  have HX := hid hx
  have HY := hid hy
  have HZ := hid hz
  have HN := hid hn
  have km : ∀ w, (Builtin.min_ #[3, 3, 3, 3] 3 #[.int .i64 xs.length, .int .i64 ys.length, .int .i64 zs.length, .int .i64 500]).run Try.prog w = .ok (.int .i64 (n : Int)) w := by
    intro w
    rw [run_min4]
    congr 2
    omega
  have b500 : n ≤ 500 := by omega
  have nx : n ≤ xs.length := by omega
  have ny : n ≤ ys.length := by omega
  have nz : n ≤ zs.length := by omega
  have lx : (xs.take n).length = n := by simp; omega
  have ly : (ys.take n).length = n := by simp; omega
  have lz : (zs.take n).length = n := by simp; omega
  have HR := hid (show ∀ i, i < n → ∃ p q r : UInt8, xs[i]? = some p ∧ ys[i]? = some q ∧ zs[i]? = some r ∧ (xor3 (xs.take n) (ys.take n) (zs.take n))[i]? = some (p ^^^ q ^^^ r) from fun i hi => by
    refine ⟨xs[i]'(by omega), ys[i]'(by omega), zs[i]'(by omega), by simp, by simp, by simp, ?_⟩
    exact xor3_get _ _ _ i _ _ _ (by rw [List.getElem?_take, if_pos hi]; simp) (by rw [List.getElem?_take, if_pos hi]; simp) (by rw [List.getElem?_take, if_pos hi]; simp))
  have HRL := hid (show (xor3 (xs.take n) (ys.take n) (zs.take n)).length = n by rw [xor3_length _ _ _ (by omega) (by omega)]; exact lx)
  have HC := hid (crc_xor3 (xs.take n) (ys.take n) (zs.take n) (by omega) (by omega))
  have HLX := hid lx
  have HLY := hid ly
  have HLZ := hid lz
  clear hx hy hz hn lx ly lz
  go_enter Try.func5, Try.ntmps5
  go_wp2_with (at_make; refine wpl_makeB _ rfl _ _ _ rfl 5 Try.underlying24 infoU8 _ _ _ _ n rfl rfl rfl rfl (by omega) ?_; intro w1 O1 F1)
  have hg : w.heap.size < w1.heap.size := by have := OwnB.lt O1.out w.heap.size (by simp [Of, Value.ownBlock]); exact this
  go_loopg [9] n (fun q v0 w' => ∃ (i : Nat) (ds : List UInt8), v0 = .int .i64 i ∧ i ≤ n ∧ Hid (q = n - i) ∧ Hid (ds.length = n) ∧ Hid (∀ j, j < i → ds[j]? = (xor3 (xs.take n) (ys.take n) (zs.take n))[j]?) ∧ Hid (OwnB 5 w' (.slice (some ⟨w.heap.size, 0, none⟩) n n) ds) ∧ Hid (Fr No w w'))
  case atStart => exact ⟨0, _, rfl, by omega, rfl, by simp [Hid], fun j hj => by omega, O1, F1⟩
  case round =>
    obtain ⟨i, ds, rfl, hi, HQ, HD, HE, HO, HF⟩ := hrel
    by_cases ci : i < n
    · obtain ⟨p, q, r, hp, hq, hr, hpqr⟩ := HR.out i ci
      obtain ⟨b1, o1, e1, k1⟩ := (HX.out.keep HF.out (fun k _ => not_no k)).at_ (show i < xs.length by omega)
      obtain ⟨b2, o2, e2, k2⟩ := (HY.out.keep HF.out (fun k _ => not_no k)).at_ (show i < ys.length by omega)
      obtain ⟨b3, o3, e3, k3⟩ := (HZ.out.keep HF.out (fun k _ => not_no k)).at_ (show i < zs.length by omega)
      subst e1 e2 e3
      rw [show xs[i]'(by omega) = p by rw [List.getElem?_eq_getElem (by omega)] at hp; exact Option.some.inj hp] at k1
      rw [show ys[i]'(by omega) = q by rw [List.getElem?_eq_getElem (by omega)] at hq; exact Option.some.inj hq] at k2
      rw [show zs[i]'(by omega) = r by rw [List.getElem?_eq_getElem (by omega)] at hr; exact Option.some.inj hr] at k3
      obtain ⟨d0, hd0⟩ : ∃ d, ds[i]? = some d := ⟨ds[i]'(by rw [HD.out]; exact ci), by simp [HD.out, ci]⟩
      have hcell := Own.cells HO.out (g := w.heap.size) rfl i (bv d0) (by simp [bvs, hd0])
      have hfz := Own.frozen (show Own 5 1 wr (.slice (some ⟨w.heap.size, 0, none⟩) n n) n (bvs ds) by have h := HO.out; unfold OwnB at h; rw [HD.out] at h; exact h) i
      have HP := hid hpqr
      have i1 : i < xs.length := by omega
      have i2 : i < ys.length := by omega
      have i3 : i < zs.length := by omega
      unfold bv at hcell
      clear hp hq hr hpqr hd0
      go_wp2
      refine wp_region_still_tail 17 (by kernel_rfl) (by kernel_rfl) ?_
      simp only [List.take_succ_cons, List.take_zero, List.drop_succ_cons, List.drop_zero]
      repeat still_step
      refine wpStill_nil ?_
      have hxor : Go.bits .xor .u8 (Go.bits .xor .u8 (p.toNat : Int) (q.toNat : Int)) (r.toNat : Int) = ((p ^^^ q ^^^ r).toNat : Int) := by rw [xor_u8, xor_u8]
      have HXO := hid hxor
      clear hxor
      change wpList _ _ _ _ _ wr.drew
      go_wp2
      go_roundg (n - (i + 1))
      case measure => have := HQ.out; omega
      case rel =>
        rw [HXO.out]
        refine ⟨i + 1, ds.set i (p ^^^ q ^^^ r), by go_num, by omega, rfl, by simpa [Hid] using HD.out, ?_, ?_, ?_⟩
        · intro j hj
          by_cases hji : j = i
          · subst hji
            rw [HP.out, List.getElem?_set_self (by have := HD.out; omega)]
          · rw [List.getElem?_set_ne (by omega)]
            exact HE.out j (by omega)
        · exact OwnB.set (show OwnB 5 wr.drew _ ds from HO.out) HD.out.symm i (p ^^^ q ^^^ r)
        · exact (HF.out.drew).setCell (by simp) _
    · have HI := hid (show i = n by omega)
      have hds : ds = xor3 (xs.take n) (ys.take n) (zs.take n) := by
        apply List.ext_getElem?
        intro j
        by_cases hj : j < n
        · exact HE.out j (by rw [HI.out]; exact hj)
        · rw [List.getElem?_eq_none (by have := HD.out; omega), List.getElem?_eq_none (by have := HRL.out; omega)]
      have HO2 := hid (show RdB wr (.slice (some ⟨w.heap.size, 0, none⟩) n n) (xor3 (xs.take n) (ys.take n) (zs.take n)) by rw [← hds]; exact HO.out.rd)
      have t1 := hid ((HX.out.keep HF.out (fun k _ => not_no k)).take (m := n) (c' := c) nx (by omega))
      have t2 := hid ((HY.out.keep HF.out (fun k _ => not_no k)).take (m := n) (c' := c') ny (by omega))
      have t3 := hid ((HZ.out.keep HF.out (fun k _ => not_no k)).take (m := n) (c' := c'') nz (by omega))
      have HB := hid (show ∀ (X Y : Int), X = (crc (xor3 (xs.take n) (ys.take n) (zs.take n)) : Nat) → Y = Go.bits .xor .u32 (Go.bits .xor .u32 ((crc (xs.take n) : Nat) : Int) ((crc (ys.take n) : Nat) : Int)) ((crc (zs.take n) : Nat) : Int) → X = Y from fun X Y hX hY => by
        rw [hX, hY, xor_u32n _ _ (crc_lt _) (crc_lt _), xor_u32n _ _ (Nat.xor_lt_two_pow (n := 32) (crc_lt _) (crc_lt _)) (crc_lt _), HC.out])
      have hcc : ((crc (xor3 (xs.take n) (ys.take n) (zs.take n)) : Int) == Go.bits .xor .u32 (Go.bits .xor .u32 ((crc (xs.take n) : Nat) : Int) ((crc (ys.take n) : Nat) : Int)) ((crc (zs.take n) : Nat) : Int)) = true := by
        rw [beq_iff_eq]; exact HB.out _ _ rfl rfl
      clear hds
      have qx : n ≤ c := by omega
      have qy : n ≤ c' := by omega
      have qz : n ≤ c'' := by omega
      go_wp2
      refine wp_region_still_tail 18 (by kernel_rfl) (by kernel_rfl) ?_
      simp only [List.take_succ_cons, List.take_zero, List.drop_succ_cons, List.drop_zero]
      repeat still_step
      still_call (crc_c _ _ _ (show RdB wr.drew _ _ from HO2.out) (by rw [HRL.out]; omega))
      repeat still_step
      still_call (crc_c _ _ _ (show RdB wr.drew _ _ from t1.out) (by rw [HLX.out]; omega))
      repeat still_step
      still_call (crc_c _ _ _ (show RdB wr.drew _ _ from t2.out) (by rw [HLY.out]; omega))
      repeat still_step
      still_call (crc_c _ _ _ (show RdB wr.drew _ _ from t3.out) (by rw [HLZ.out]; omega))
      repeat still_step
      refine wpStill_nil ?_
      change wpList _ _ _ _ _ wr.drew
      go_wp2_with fail
      refine (awake_c _).mono ?_
      rintro e w5 ⟨rfl, B⟩
      have F5 := hid ((HF.out.drew).fresh_no B)
      clear B
      go_wp2_with fail
      go_ret
      exact ⟨rfl, F5.out⟩
end Go.Proofs.Ytdlabicepppfaaa
