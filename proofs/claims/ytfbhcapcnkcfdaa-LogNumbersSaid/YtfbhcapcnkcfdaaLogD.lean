import Derived.Test.YtfbhcapcnkcfdaaLogC
import Derived.Test.YtfbhcapcnkcfdaaRowKit
/-! The document's record; a list of bytes beside another one; a log and its disk, new since w0. -/
namespace Go.Proofs.Ytfbhcapcnkcfdaa
open Go.RowKit
set_option linter.unusedVariables false
set_option linter.unusedSimpArgs false

set_option maxRecDepth 100000 in
set_option maxHeartbeats 1000000 in
theorem crc_ref (y : Value) (ys : List UInt8) (w : World) (hy : RdB w y ys) (hl : ys.length ≤ 140737488355328) :
    Calls Try.prog 46 #[y] w fun en w' => en = .returned (.int .u32 (crc ys)) ∧ w' = w := by
  obtain ⟨A, c, rfl, hc⟩ := hy.slice
  have HY := hid hy
  clear hy
  go_enter Try.func46, Try.ntmps46
  go_wp2_with fail
  go_loopg [3, 4] ys.length (fun k v0 v1 w' => ∃ (i c : Nat), v0 = .int .u32 c ∧ v1 = .int .i64 i ∧ i ≤ ys.length ∧ Hid (k = ys.length - i) ∧ Hid (c = crcL 4294967295 (ys.take i)) ∧ w' = w)
  case atStart => exact ⟨0, 4294967295, rfl, rfl, by omega, rfl, rfl, rfl⟩
  case round =>
    obtain ⟨i, c, rfl, rfl, hi, HK, HC, rfl⟩ := hrel
    by_cases c1 : i < ys.length
    · obtain ⟨b, off, hA, hcell⟩ := HY.out.at_ c1
      subst hA
      obtain ⟨x, hx⟩ : ∃ x : UInt8, x = ys[i]'c1 := ⟨_, rfl⟩
      rw [← hx] at hcell
      have HX := hid hx
      have hx2 := x.toNat_lt
      have hc : c < 4294967296 := by rw [HC.out]; exact crcL_lt _ (by omega)
      clear hx
      go_wp2_with fail
      obtain ⟨wo, hwo⟩ : ∃ wo : World, wo = wr := ⟨_, rfl⟩
      have HW := hid hwo
      clear hwo
      go_loopg [3, 5] 8 (fun k v0 v1 w' => ∃ (j d : Nat), v0 = .int .u32 d ∧ v1 = .int .i64 j ∧ j ≤ 8 ∧ Hid (k = 8 - j) ∧ Hid (d = crcN j (c ^^^ x.toNat)) ∧ w' = wr)
      case atStart => exact ⟨0, c ^^^ x.toNat, congrArg (Value.int IntKind.u32) (xor_u32 c hc x _ (by first | rfl | (rw [IntKind.wrap_u32]; omega))), rfl, by omega, rfl, rfl, rfl⟩
      case round =>
        obtain ⟨j, d, rfl, rfl, hj, HK2, HD, rfl⟩ := hrel
        have hd : d < 4294967296 := by rw [HD.out]; exact crcN_lt j (crcx_lt hc x)
        by_cases c2 : j < 8
        · by_cases c3 : d % 2 = 1
          · have h3 : (((d : Int) % 2) == 1) = true := by simp; omega
            have h1 : crc1 d = (d / 2) ^^^ 3988292384 := by unfold crc1; rw [if_pos c3]
            have HX1 := hid (show Go.bits .xor .u32 ((d : Int) / 2) 3988292384 = ((crc1 d : Nat) : Int) by
              rw [h1]
              have := xor_u32n (d / 2) 3988292384 (by omega) (by omega)
              rw [← this]
              congr 1)
            clear c3 h1
            go_wp2_with fail
            go_roundg (8 - (j + 1))
            case measure => go_light; have := HK2.out; omega
            case rel =>
              go_light
              refine ⟨j + 1, crc1 d, congrArg (Value.int IntKind.u32) HX1.out, by go_num, by omega, rfl, ?_, rfl⟩
              unfold Hid
              rw [HD.out]; rfl
          · have h3 : (((d : Int) % 2) == 1) = false := by rw [beq_eq_false_iff_ne]; omega
            have h1 : crc1 d = d / 2 := by unfold crc1; rw [if_neg c3, Nat.xor_zero]
            have HX1 := hid h1
            clear c3 h1
            go_wp2_with fail
            go_roundg (8 - (j + 1))
            case measure => go_light; have := HK2.out; omega
            case rel =>
              go_light
              refine ⟨j + 1, crc1 d, congrArg (Value.int IntKind.u32) (by rw [HX1.out]; omega), by go_num, by omega, rfl, ?_, rfl⟩
              unfold Hid
              rw [HD.out]; rfl
        · have e8 : j = 8 := by omega
          have HE := hid e8
          clear e8
          go_wp2_with fail
          go_roundg (ys.length - (i + 1))
          case measure => go_light; have := HK.out; omega
          case rel =>
            go_light
            refine ⟨i + 1, d, rfl, by go_num, by omega, rfl, ?_, rfl⟩
            unfold Hid
            rw [HD.out, HE.out, crcL_take _ _ _ c1, ← HX.out, ← HC.out]
            rfl
    · have hc2 : c < 4294967296 := by rw [HC.out]; exact crcL_lt _ (by omega)
      have HF := hid (show 4294967295 - c = crc ys by rw [HC.out, List.take_of_length_le (by omega)]; rfl)
      go_wp2_with fail
      go_ret
      refine ⟨congrArg (fun i => Ending.returned (.int .u32 i)) ?_, rfl⟩
      have := HF.out
      omega

set_option maxRecDepth 100000 in
set_option maxHeartbeats 1000000 in
theorem four_ref (n : Nat) (hn : n < 4294967296) (x : Int) (hx : x = n) (w : World) :
    Calls Try.prog 45 #[.int .i64 x] w (RetB w No (four n)) := by
  subst hx
  have HL := hid (show [Value.int .u8 (((n : Int) / 16777216)), .int .u8 (((n : Int) / 65536) % 256), .int .u8 (((n : Int) / 256) % 256), .int .u8 ((n : Int) % 256)] = bvs (four n) by
    simp [bvs, bv, four]; omega)
  go_enter Try.func45, Try.ntmps45
  go_wp2_with fail
  go_ret
  refine ⟨.slice (some ⟨w.heap.size, 0, none⟩) 4 4, rfl, ?_, (Fr.refl _ _).alloc _, fun k hk => .inr (Nat.le_of_eq (Of_some.1 hk).symm)⟩
  refine OwnB.lit w 5 _ 4 (four n) ?_ rfl (by simp only [maxLen]; omega)
  exact HL.out

set_option maxRecDepth 100000 in
set_option maxHeartbeats 1000000 in
theorem record_ref (y : Value) (ys : List UInt8) (w : World) (hy : RdB w y ys) (hl : ys.length ≤ 4000000000) :
    Calls Try.prog 20 #[y] w (RetB w No (recB ys)) := by
  obtain ⟨A, c, rfl, hc⟩ := hy.slice
  have HY := hid hy
  have HC := hid (crc_lt ys)
  have hb1 : (four ys.length).length + (four (crc ys)).length ≤ 140737488355328 := by simp [four_length]
  have hb2 : (four ys.length ++ four (crc ys)).length + ys.length ≤ 140737488355328 := by simp [four_length]; omega
  clear hy
  go_enter Try.func20, Try.ntmps20
  go_wp2_with fail
  refine (four_ref ys.length (by omega) _ rfl _).mono ?_
  rintro e w1 ⟨v1, rfl, O1, F1, G1⟩
  have HY1 := hid (HY.out.too F1)
  have HO1 := hid O1
  have HF1 := hid F1
  have HG1 := hid G1
  clear O1 F1 G1
  go_wp2_with fail
  refine (crc_ref _ ys _ HY1.out (by omega)).mono ?_
  rintro e w2 ⟨rfl, rfl⟩
  go_wp2_with fail
  refine (four_ref (crc ys) HC.out _ (by first | rfl | (have := HC.out; unfold wrap64; omega)) _).mono ?_
  rintro e w3 ⟨v3, rfl, O3, F3, G3⟩
  have HO3 := hid O3
  have HO13 := hid (HO1.out.keep F3 (fun k _ => not_no k))
  have HF3 := hid (HF1.out.fresh_no F3)
  have HY3 := hid (HY1.out.too F3)
  have HO1L := hid HO1.out.lt
  have HG3 := hid G3
  clear O3 F3 G3
  go_wp2_with (first
    | (at_builtin; refine wpl_appB _ rfl (.tmp 6) (.tmp 10) _ rfl 5 Try.underlying22 infoU8 v1 (four ys.length) rfl HO13.out v3 (four (crc ys)) rfl HO3.out.rd hb1 ?_; intro v4 w4 O4 F4 G4; have HF4 := hid (HF3.out.fresh F4.out (fun k hk => by rcases HG1.out k hk with h | h; exact absurd h (not_no _); exact h)); have HY4 := hid (HY3.out.keep_ F4.out (fun h0 k hk hk2 => by have h1 := HY.out.old_ h0 k hk; rcases HG1.out k hk2 with h | h; exact absurd h (not_no _); omega)); have HG4 := hid (show Grows w No v4 from fun k hk => by rcases G4.out k hk with h | h; exact HG1.out k h; exact .inr (Nat.le_trans HF3.out.size h)))
    | (at_builtin; refine wpl_appB _ rfl (.tmp 12) (.tmp 13) _ rfl 5 Try.underlying22 infoU8 v4 (four ys.length ++ four (crc ys)) rfl O4.out (.slice A ys.length c) ys rfl HY4.out hb2 ?_; intro v5 w5 O5 F5 G5))
  go_ret
  refine ⟨v5, rfl, ?_, HF4.out.fresh F5.out (fun k hk => by rcases HG4.out k hk with h | h; exact absurd h (not_no _); exact h), fun k hk => by rcases G5.out k hk with h | h; exact HG4.out k h; exact .inr (Nat.le_trans HF4.out.size h)⟩
  have h := O5.out
  rw [List.append_assoc] at h
  exact h
end Go.Proofs.Ytfbhcapcnkcfdaa
