import Derived.Test.YtfbhcapcnkcfdaaLogF
/-! LogNone: a log that Open did not make answers nothing and ErrNil. -/
namespace Go.Proofs.Ytfbhcapcnkcfdaa
open Go.RowKit
set_option linter.unusedVariables false
set_option linter.unusedSimpArgs false

/-- no log -/
def NoLog (w : World) (p : Value) : Prop := p = .pointer none ∨ ∃ b, p = .pointer (some ⟨b, 0, none⟩) ∧ Blk w b 26 #[.pointer none, .int .i64 0, .int .i64 0, .bool false]
theorem NoLog.keep {w w' : World} {p : Value} (h : NoLog w p) (hf : Fr No w w') : NoLog w' p := by
  rcases h with h | ⟨b, h1, h2⟩
  · exact .inl h
  · exact .inr ⟨b, h1, h2.keep hf (not_no _)⟩
set_option maxHeartbeats 1000000 in
theorem addN {w : World} {p : Value} (h : NoLog w p) (y : Value) (xs : List UInt8) (hy : RdB w y xs) : Calls Try.prog 10 #[p, y] w fun e w' => e = .returned (.int .i64 1) ∧ Fr No w w' := by
  obtain ⟨A, c, rfl, hc⟩ := hy.slice
  clear hy
  rcases h with rfl | ⟨b, rfl, hb⟩
  · go_enter Try.func10, Try.ntmps10
    go_wp2_with fail
    go_ret
    exact ⟨rfl, (Fr.refl No w).alloc _⟩
  · obtain ⟨k0, k1, k2, k3, kf⟩ := Blk.fours (hb.alloc (.cells #[.pointer (some ⟨b, 0, none⟩)] 23))
    clear hb
    go_enter Try.func10, Try.ntmps10
    go_wp2_with fail
    go_ret
    exact ⟨rfl, (Fr.refl No w).alloc _⟩
set_option maxHeartbeats 1000000 in
theorem lenN {w : World} {p : Value} (h : NoLog w p) : Calls Try.prog 11 #[p] w fun e w' => e = .returned (.int .i64 0) ∧ w' = w := by
  rcases h with rfl | ⟨b, rfl, hb⟩
  · go_enter Try.func11, Try.ntmps11
    go_wp2_with fail
    go_ret
    exact ⟨rfl, rfl⟩
  · obtain ⟨k0, k1, k2, k3, kf⟩ := Blk.fours hb
    clear hb
    go_enter Try.func11, Try.ntmps11
    go_wp2_with fail
    go_ret
    exact ⟨rfl, rfl⟩
set_option maxHeartbeats 1000000 in
theorem bytesN {w : World} {p : Value} (h : NoLog w p) : Calls Try.prog 12 #[p] w fun e w' => e = .returned (.int .i64 0) ∧ w' = w := by
  rcases h with rfl | ⟨b, rfl, hb⟩
  · go_enter Try.func12, Try.ntmps12
    go_wp2_with fail
    go_ret
    exact ⟨rfl, rfl⟩
  · obtain ⟨k0, k1, k2, k3, kf⟩ := Blk.fours hb
    clear hb
    go_enter Try.func12, Try.ntmps12
    go_wp2_with fail
    go_ret
    exact ⟨rfl, rfl⟩
set_option maxHeartbeats 1000000 in
theorem readN (w : World) : Calls Try.prog 39 #[.pointer none] w fun e w' => e = .returned (.tuple #[.slice none 0 0, .int .i64 1]) ∧ w' = w := by
  go_enter Try.func39, Try.ntmps39
  go_wp2_with fail
  refine (none_nil _).mono ?_
  rintro e wx ⟨rfl, rfl⟩
  go_wp2_with fail
  go_ret2
  exact ⟨rfl, rfl⟩
set_option maxHeartbeats 1000000 in
theorem openN (w : World) : Calls Try.prog 13 #[.pointer none] w fun e w' => e = .returned (.tuple #[.pointer none, .slice none 0 0, .int .i64 1]) ∧ w' = w := by
  go_enter Try.func13, Try.ntmps13
  go_wp2_with fail
  refine (readN _).mono ?_
  rintro e wx ⟨rfl, rfl⟩
  go_wp2_with fail
  go_ret3
  exact ⟨rfl, rfl⟩

set_option maxRecDepth 100000 in
set_option maxHeartbeats 2000000 in
theorem logNone_c (y : Value) (xs : List UInt8) (w : World) (hy : RdB w y xs) :
    Calls Try.prog 3 #[y] w (RetT w) := by
  obtain ⟨A, c, rfl, hc⟩ := hy.slice
  have HY := hid hy
  clear hy
  go_enter Try.func3, Try.ntmps3
  go_wp2_with fail
  go_loopg [5, 14] 2 (fun q v5 v14 w' => ∃ i : Nat, v14 = .int .i64 i ∧ i ≤ 2 ∧ q = 2 - i ∧
    Hid (Blk w' w.heap.size 26 #[.pointer none, .int .i64 0, .int .i64 0, .bool false]) ∧ Hid (Blk w' (w.heap.size + 1) 23 #[.pointer none, .pointer (some ⟨w.heap.size, 0, none⟩)]) ∧ Hid (Fr No w w'))
  case atStart =>
    refine ⟨0, rfl, by omega, rfl, (Blk.new w _ _).alloc _, ?_, ((Fr.refl No w).alloc _).alloc _⟩
    have h := Blk.new (w.alloc (.cells #[.pointer none, .int .i64 0, .int .i64 0, .bool false] 26)) 23 #[.pointer none, .pointer (some ⟨w.heap.size, 0, none⟩)]
    rwa [show (w.alloc (.cells #[.pointer none, .int .i64 0, .int .i64 0, .bool false] 26)).heap.size = w.heap.size + 1 by simp] at h
  case round =>
    obtain ⟨i, rfl, hi, hq, HB, HP, HF⟩ := hrel
    have HQ := hid hq
    clear hq
    by_cases d1 : i < 2
    · obtain ⟨p, hp, hn⟩ : ∃ p, wr.cell? ⟨w.heap.size + 1, i, none⟩ = some p ∧ NoLog wr p := by
        rw [HP.out.cell i]
        rcases i with _ | _ | i
        · exact ⟨_, rfl, .inl rfl⟩
        · exact ⟨_, rfl, .inr ⟨_, rfl, HB.out⟩⟩
        · omega
      have i2 : (i : Int) < 2 := by omega
      have N0 := hid hn
      clear hn
      go_wp2_with fail
      refine (addN N0.out _ xs (HY.out.too HF.out)).mono ?_
      rintro e w1 ⟨rfl, F⟩
      have FA := hid F
      have N1 := hid (N0.out.keep F)
      clear F
      go_wp2_with fail
      refine (lenN N1.out).mono ?_
      rintro e wx ⟨rfl, rfl⟩
      go_wp2_with fail
      refine (bytesN N1.out).mono ?_
      rintro e wx ⟨rfl, rfl⟩
      go_wp2_with fail
      go_roundg (2 - (i + 1))
      case measure => have := HQ.out; omega
      case rel => exact ⟨i + 1, by go_num, by omega, rfl, HB.out.keep FA.out (not_no _), HP.out.keep FA.out (not_no _), HF.out.fresh_no FA.out⟩
    · have hie : i = 2 := by omega
      subst hie
      go_wp2_with fail
      refine (openN _).mono ?_
      rintro e wx ⟨rfl, rfl⟩
      go_wp2_with fail
      refine (awake_c _).mono ?_
      rintro e w5 ⟨rfl, B⟩
      have F5 := hid (HF.out.fresh_no B)
      clear B
      go_wp2_with fail
      go_ret
      exact ⟨rfl, F5.out⟩
end Go.Proofs.Ytfbhcapcnkcfdaa
