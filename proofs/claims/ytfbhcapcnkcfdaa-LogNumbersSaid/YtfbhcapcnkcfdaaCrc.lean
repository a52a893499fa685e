import Derived.Test.YtfbhcapcnkcfdaaLow
import Derived.Test.YtfbhcapcnkcfdaaMath
import Derived.Deep.Light
/-! The sum of bytes; a number in four bytes. -/
namespace Go.Proofs.Ytfbhcapcnkcfdaa
open Go.RowKit
set_option linter.unusedVariables false

set_option maxRecDepth 100000 in
set_option maxHeartbeats 1000000 in
theorem crc_c (y : Value) (ys : List UInt8) (w : World) (hy : RdB w y ys) (hl : ys.length ≤ 140737488355328) :
    Calls Try.prog 36 #[y] w fun en w' => en = .returned (.int .u32 (crc ys)) ∧ w' = w := by
  obtain ⟨A, c, rfl, hc⟩ := hy.slice
  have HY := hid hy
  clear hy
  go_enter Try.func36, Try.ntmps36
  go_wp2
  go_loopg [3, 8] ys.length (fun k v0 v1 w' => ∃ (i c : Nat), v0 = .int .u32 c ∧ v1 = .int .i64 i ∧ i ≤ ys.length ∧ Hid (k = ys.length - i) ∧ Hid (c = crcL 4294967295 (ys.take i)) ∧ w' = w)
  case atStart => exact ⟨0, 4294967295, rfl, rfl, by omega, rfl, rfl, rfl⟩
  case round =>
    obtain ⟨i, c, rfl, rfl, hi, HK, HC, rfl⟩ := hrel
    by_cases c1 : i < ys.length
    · obtain ⟨b, off, hA, hcell⟩ := HY.out.at_ c1
      subst hA
      obtain ⟨x, hx⟩ : ∃ x : UInt8, x = ys[i]'c1 := ⟨_, rfl⟩
      rw [← hx] at hcell
      have HX := hid hx
      have hx2 := x.toNat_lt
      have hc : c < 4294967296 := by rw [HC.out]; exact crcL_lt _ (by omega)
      clear hx
      go_wp2
      obtain ⟨wo, hwo⟩ : ∃ wo : World, wo = wr := ⟨_, rfl⟩
      have HW := hid hwo
      clear hwo
      go_loopg [3, 16] 8 (fun k v0 v1 w' => ∃ (j d : Nat), v0 = .int .u32 d ∧ v1 = .int .i64 j ∧ j ≤ 8 ∧ Hid (k = 8 - j) ∧ Hid (d = crcN j (c ^^^ x.toNat)) ∧ w' = wr)
      case atStart => exact ⟨0, c ^^^ x.toNat, congrArg (Value.int IntKind.u32) (xor_u32 c hc x _ (by first | rfl | (rw [IntKind.wrap_u32]; omega))), rfl, by omega, rfl, rfl, rfl⟩
      case round =>
        obtain ⟨j, d, rfl, rfl, hj, HK2, HD, rfl⟩ := hrel
        have hd : d < 4294967296 := by rw [HD.out]; exact crcN_lt j (crcx_lt hc x)
        by_cases c2 : j < 8
        · go_wp2
          go_roundg (8 - (j + 1))
          case measure => go_light; have := HK2.out; omega
          case rel =>
            go_light
            refine ⟨j + 1, crc1 d, congrArg (Value.int IntKind.u32) (crc1_bits d hd _ rfl), by go_num, by omega, rfl, ?_, rfl⟩
            unfold Hid
            rw [HD.out]; rfl
        · have e8 : j = 8 := by omega
          have HE := hid e8
          clear e8
          go_wp2
          go_roundg (ys.length - (i + 1))
          case measure => go_light; have := HK.out; omega
          case rel =>
            go_light
            refine ⟨i + 1, d, rfl, by go_num, by omega, rfl, ?_, rfl⟩
            unfold Hid
            rw [HD.out, HE.out, crcL_take _ _ _ c1, ← HX.out, ← HC.out]
            rfl
    · have hc2 : c < 4294967296 := by rw [HC.out]; exact crcL_lt _ (by omega)
      have HF := hid (show 4294967295 - c = crc ys by rw [HC.out, List.take_of_length_le (by omega)]; rfl)
      have HN := hid (not_u32 c hc2)
      clear hc2
      go_wp2
      go_ret
      refine ⟨congrArg (fun i => Ending.returned (.int .u32 i)) ?_, rfl⟩
      exact HN.out.trans (congrArg _ HF.out)

set_option maxRecDepth 100000 in
set_option maxHeartbeats 1000000 in
theorem four_c (v : Value) (xs : List UInt8) (n : Nat) (hn : n < 4294967296) (w : World) (h : OwnB 5 w v xs) (hb : xs.length ≤ 140737488355000) :
    Calls Try.prog 35 #[v, .int .u32 n] w (RetB w (Of v) (xs ++ four n)) := by
  have H := hid h
  have HB := hid (show xs.length + (four n).length ≤ 140737488355328 by simp [four]; omega)
  have HL := hid (show [Value.int .u8 ((n : Int) / 16777216), .int .u8 (((n : Int) / 65536) % 256), .int .u8 (((n : Int) / 256) % 256), .int .u8 ((n : Int) % 256)] = bvs (four n) by
    simp [bvs, bv, four]; omega)
  clear h hb
  go_enter Try.func35, Try.ntmps35
  go_wp2_with (at_builtin; refine wpl_appB _ rfl (.tmp 5) (.tmp 17) _ rfl 5 Try.underlying22 infoU8 _ _ rfl (H.out.alloc _) _ (four n) rfl (RdB.lit _ _ _ _ _ (by first | exact HL.out | (simp; exact HL.out)) rfl) HB.out ?_; intro v1 w1 A1 A2 A3)
  go_ret
  exact ⟨v1, rfl, A1, ((Fr.refl _ _).alloc _).trans A2.out (fun k hk hS => hS), (Grows.self _ _).trans A3.out (by simp)⟩

set_option maxRecDepth 100000 in
set_option maxHeartbeats 1000000 in
theorem number_c (y : Value) (ys : List UInt8) (w : World) (hy : RdB w y ys) (hl : 4 ≤ ys.length) (hm : ys.length ≤ 140737488355328) :
    Calls Try.prog 57 #[y] w fun en w' => en = .returned (.int .u32 (num4 ys)) ∧ ∃ n, w' = w.drewN n := by
  obtain ⟨A, c, rfl, hc⟩ := hy.slice
  obtain ⟨b, off, hA, h0⟩ := hy.at_ (k := 0) (by omega)
  subst hA
  obtain ⟨b1, off1, e1, h1⟩ := hy.at_ (k := 1) (by omega)
  obtain ⟨b2, off2, e2, h2⟩ := hy.at_ (k := 2) (by omega)
  obtain ⟨b3, off3, e3, h3⟩ := hy.at_ (k := 3) (by omega)
  injection e1 with e1
  injection e1 with e1 e1'
  injection e2 with e2
  injection e2 with e2 e2'
  injection e3 with e3
  injection e3 with e3 e3'
  subst e1 e1' e2 e2' e3 e3'
  rw [Nat.add_zero] at h0
  obtain ⟨x0, g0⟩ : ∃ x : Nat, x = (ys[0]'(by omega)).toNat := ⟨_, rfl⟩
  obtain ⟨x1, g1⟩ : ∃ x : Nat, x = (ys[1]'(by omega)).toNat := ⟨_, rfl⟩
  obtain ⟨x2, g2⟩ : ∃ x : Nat, x = (ys[2]'(by omega)).toNat := ⟨_, rfl⟩
  obtain ⟨x3, g3⟩ : ∃ x : Nat, x = (ys[3]'(by omega)).toNat := ⟨_, rfl⟩
  have m0 : x0 < 256 := by rw [g0]; exact (ys[0]'(by omega)).toNat_lt
  have m1 : x1 < 256 := by rw [g1]; exact (ys[1]'(by omega)).toNat_lt
  have m2 : x2 < 256 := by rw [g2]; exact (ys[2]'(by omega)).toNat_lt
  have m3 : x3 < 256 := by rw [g3]; exact (ys[3]'(by omega)).toNat_lt
  rw [← g0] at h0
  rw [← g1] at h1
  rw [← g2] at h2
  rw [← g3] at h3
  have HE : Hid (num4 ys = x0 * 16777216 + x1 * 65536 + x2 * 256 + x3) := by
    unfold Hid num4
    rw [g0, g1, g2, g3]
    simp only [List.getD, List.getElem?_eq_getElem (show 0 < ys.length by omega), List.getElem?_eq_getElem (show 1 < ys.length by omega), List.getElem?_eq_getElem (show 2 < ys.length by omega), List.getElem?_eq_getElem (show 3 < ys.length by omega), Option.getD_some]
  clear g0 g1 g2 g3
  have HV := hid (fun (A B C D : Int) (hA : A = ((x0 * 16777216 : Nat) : Int)) (hB : B = ((x1 * 65536 : Nat) : Int)) (hC : C = ((x2 * 256 : Nat) : Int)) (hD : D = (x3 : Int)) => (show Go.bits .or .u32 (Go.bits .or .u32 (Go.bits .or .u32 A B) C) D = ((num4 ys : Nat) : Int) by subst hA hB hC hD; rw [HE.out]; exact num4_bits x0 x1 x2 x3 m0 m1 m2 m3))
  clear hy
  have l0 : 0 < ys.length := by omega
  have l1 : 1 < ys.length := by omega
  have l2 : 2 < ys.length := by omega
  have l3 : 3 < ys.length := by omega
  go_enter Try.func57, Try.ntmps57
  go_wp2
  go_quiet (fail)
  go_wp2
  go_ret
  refine ⟨congrArg (fun i => Ending.returned (.int .u32 i)) ?_, _, rfl⟩
  exact HV.out _ _ _ _ (by omega) (by omega) (by omega) (by omega)
end Go.Proofs.Ytfbhcapcnkcfdaa
