import Derived.Test.YtfilmehekibmbaaDiskF
import Derived.Test.YtfilmehekibmbaaRowKit
/-! DiskNone: a disk that New did not make answers nothing and ErrNil. -/
namespace Go.Proofs.Ytfilmehekibmbaa
open Go.RowKit
set_option linter.unusedVariables false
set_option linter.unusedSimpArgs false

/-- no disk, or one that New did not make -/
def NoneAt (w : World) (p : Value) : Prop := p = .pointer none ∨ ∃ g cs, p = .pointer (some ⟨g, 0, none⟩) ∧ Blk w g 49 cs ∧ cs[0]? = some (.bool false)
theorem NoneAt.keep {w w' : World} {p : Value} (h : NoneAt w p) (hf : Fr No w w') : NoneAt w' p := by
  rcases h with h | ⟨g, cs, h1, h2, h3⟩
  · exact .inl h
  · exact .inr ⟨g, cs, h1, h2.keep hf (not_no _), h3⟩
theorem none_no {w : World} {p : Value} (h : NoneAt w p) : Calls Try.prog 38 #[p] w fun e w' => e = .returned (.bool true) ∧ w' = w := by
  rcases h with rfl | ⟨g, cs, rfl, h2, h3⟩
  · exact none_nil w
  · exact none_at g false w ((h2.cell 0).trans h3)
/-- an answer that leaves all as it was -/
def Ret1 (w : World) (r : Value) : Ending → World → Prop := fun e w' => e = .returned r ∧ Fr No w w'

set_option maxHeartbeats 1000000 in
theorem armN {w : World} {p : Value} (h : NoneAt w p) (n : Int) : Calls Try.prog 17 #[p, .int .i64 n] w (Ret1 w (.tuple #[])) := by
  have H := hid h
  clear h
  go_enter Try.func17, Try.ntmps17
  go_wp2_with (first | (go_at_call 38; refine (none_no H.out).mono ?_; rintro e w1 ⟨rfl, rfl⟩))
  go_end0
  exact ⟨rfl, Fr.refl _ _⟩
set_option maxHeartbeats 1000000 in
theorem crashN {w : World} {p : Value} (h : NoneAt w p) (n : Int) : Calls Try.prog 19 #[p, .int .i64 n] w (Ret1 w (.tuple #[])) := by
  have H := hid h
  clear h
  go_enter Try.func19, Try.ntmps19
  go_wp2_with (first | (go_at_call 38; refine (none_no H.out).mono ?_; rintro e w1 ⟨rfl, rfl⟩))
  go_end0
  exact ⟨rfl, Fr.refl _ _⟩
set_option maxHeartbeats 1000000 in
theorem readN {w : World} {p : Value} (h : NoneAt w p) : Calls Try.prog 13 #[p] w (Ret1 w (.tuple #[.slice none 0 0, .int .i64 1])) := by
  have H := hid h
  clear h
  go_enter Try.func13, Try.ntmps13
  go_wp2_with (first | (go_at_call 38; refine (none_no H.out).mono ?_; rintro e w1 ⟨rfl, rfl⟩))
  go_ret2
  exact ⟨rfl, Fr.refl _ _⟩
set_option maxHeartbeats 1000000 in
theorem downN {w : World} {p : Value} (h : NoneAt w p) : Calls Try.prog 27 #[p] w (Ret1 w (.bool false)) := by
  have H := hid h
  clear h
  go_enter Try.func27, Try.ntmps27
  go_wp2_with (first | (go_at_call 38; refine (none_no H.out).mono ?_; rintro e w1 ⟨rfl, rfl⟩))
  go_ret
  exact ⟨rfl, Fr.refl _ _⟩
set_option maxHeartbeats 1000000 in
theorem sizeN {w : World} {p : Value} (h : NoneAt w p) : Calls Try.prog 28 #[p] w (Ret1 w (.int .i64 0)) := by
  have H := hid h
  clear h
  go_enter Try.func28, Try.ntmps28
  go_wp2_with (first | (go_at_call 38; refine (none_no H.out).mono ?_; rintro e w1 ⟨rfl, rfl⟩))
  go_ret
  exact ⟨rfl, Fr.refl _ _⟩
set_option maxHeartbeats 1000000 in
theorem syncedN {w : World} {p : Value} (h : NoneAt w p) : Calls Try.prog 16 #[p] w (Ret1 w (.int .i64 0)) := by
  have H := hid h
  clear h
  go_enter Try.func16, Try.ntmps16
  go_wp2_with (first | (go_at_call 38; refine (none_no H.out).mono ?_; rintro e w1 ⟨rfl, rfl⟩))
  go_ret
  exact ⟨rfl, Fr.refl _ _⟩
set_option maxHeartbeats 1000000 in
theorem operationN {w : World} {p : Value} (h : NoneAt w p) (x y : Value) : Calls Try.prog 35 #[p, x, y] w (Ret1 w (.int .i64 1)) := by
  have H := hid h
  clear h
  go_enter Try.func35, Try.ntmps35
  go_wp2_with (first | (go_at_call 38; refine (none_no H.out).mono ?_; rintro e w1 ⟨rfl, rfl⟩))
  go_ret
  exact ⟨rfl, Fr.refl _ _⟩
set_option maxHeartbeats 1000000 in
theorem syncN {w : World} {p : Value} (h : NoneAt w p) : Calls Try.prog 18 #[p] w (Ret1 w (.int .i64 1)) := by
  have H := hid h
  rcases h with rfl | ⟨g, cs, rfl, h2, h3⟩
  all_goals
    go_enter Try.func18, Try.ntmps18
    go_wp2_with fail
    refine (operationN (H.out.keep ((Fr.refl No w).alloc _)) _ _).mono ?_
    rintro e w1 ⟨rfl, F⟩
    have F1 := hid (((Fr.refl No w).alloc _).fresh_no F)
    clear F
    go_wp2_with fail
    go_ret
    exact ⟨rfl, F1.out⟩
set_option maxHeartbeats 1000000 in
theorem cutN {w : World} {p : Value} (h : NoneAt w p) (n : Int) : Calls Try.prog 15 #[p, .int .i64 n] w (Ret1 w (.int .i64 1)) := by
  have H := hid h
  rcases h with rfl | ⟨g, cs, rfl, h2, h3⟩
  all_goals
    go_enter Try.func15, Try.ntmps15
    go_wp2_with fail
    refine (operationN (H.out.keep (((Fr.refl No w).alloc _).alloc _)) _ _).mono ?_
    rintro e w1 ⟨rfl, F⟩
    have F1 := hid ((((Fr.refl No w).alloc _).alloc _).fresh_no F)
    clear F
    go_wp2_with fail
    go_ret
    exact ⟨rfl, F1.out⟩
set_option maxHeartbeats 1000000 in
theorem appendN {w : World} {p : Value} (h : NoneAt w p) (y : Value) (xs : List UInt8) (hy : RdB w y xs) : Calls Try.prog 12 #[p, y] w (Ret1 w (.int .i64 1)) := by
  obtain ⟨A, c, rfl, hc⟩ := hy.slice
  have H := hid h
  rcases h with rfl | ⟨g, cs, rfl, h2, h3⟩
  all_goals
    go_enter Try.func12, Try.ntmps12
    go_wp2_with fail
    refine (operationN (H.out.keep (((Fr.refl No w).alloc _).alloc _)) _ _).mono ?_
    rintro e w1 ⟨rfl, F⟩
    have F1 := hid ((((Fr.refl No w).alloc _).alloc _).fresh_no F)
    clear F
    go_wp2_with fail
    go_ret
    exact ⟨rfl, F1.out⟩

set_option maxRecDepth 100000 in
set_option maxHeartbeats 2000000 in
theorem diskNone_c (n : Int) (y : Value) (xs : List UInt8) (w : World) (hy : InB w y xs) :
    Calls Try.prog 5 #[.int .i64 n, y] w (RetT w) := by
  obtain ⟨A, c, rfl, hc⟩ := hy.1.slice
  have HY := hid hy.1
  clear hy
  go_enter Try.func5, Try.ntmps5
  go_wp2_with fail
  go_loopg [7, 8, 9, 15] 2 (fun q v7 v8 v9 v15 w' => ∃ i : Nat, v15 = .int .i64 i ∧ i ≤ 2 ∧ q = 2 - i ∧
    Hid (∃ cs, Blk w' w.heap.size 49 cs ∧ cs[0]? = some (.bool false)) ∧ Hid (Blk w' (w.heap.size + 1) 22 #[.pointer none, .pointer (some ⟨w.heap.size, 0, none⟩)]) ∧ Hid (Fr No w w'))
  case atStart =>
    refine ⟨0, rfl, by omega, rfl, ⟨_, (Blk.new w _ _).alloc _, rfl⟩, ?_, ((Fr.refl No w).alloc _).alloc _⟩
    have h := Blk.new (w.alloc (.cells #[.bool false, .int .i64 0, .slice none 0 0, .int .i64 0, .int .i64 0, .bool false] 49)) 22 #[.pointer none, .pointer (some ⟨w.heap.size, 0, none⟩)]
    rwa [show (w.alloc (.cells #[.bool false, .int .i64 0, .slice none 0 0, .int .i64 0, .int .i64 0, .bool false] 49)).heap.size = w.heap.size + 1 by simp] at h
  case round =>
    obtain ⟨i, rfl, hi, hq, HB, HP, HF⟩ := hrel
    have HQ := hid hq
    clear hq
    by_cases d1 : i < 2
    · obtain ⟨p, hp, hn⟩ : ∃ p, wr.cell? ⟨w.heap.size + 1, i, none⟩ = some p ∧ NoneAt wr p := by
        rw [HP.out.cell i]
        obtain ⟨cs, h1, h2⟩ := HB.out
        rcases i with _ | _ | i
        · exact ⟨_, rfl, .inl rfl⟩
        · exact ⟨_, rfl, .inr ⟨_, cs, rfl, h1, h2⟩⟩
        · omega
      have i2 : (i : Int) < 2 := by omega
      have N0 := hid hn
      clear hn
      go_wp2_with fail
      refine (armN N0.out n).mono ?_
      rintro e w1 ⟨rfl, F⟩
      have FA := hid F
      have N1 := hid (N0.out.keep F)
      clear F
      go_wp2_with fail
      refine (crashN N1.out n).mono ?_
      rintro e w2 ⟨rfl, F⟩
      have FB := hid (FA.out.fresh_no F)
      have N2 := hid (N1.out.keep F)
      clear F FA
      go_wp2_with fail
      refine (readN N2.out).mono ?_
      rintro e w3 ⟨rfl, F⟩
      have FC := hid (FB.out.fresh_no F)
      have N3 := hid (N2.out.keep F)
      clear F FB
      go_wp2_with fail
      refine (appendN N3.out _ xs (HY.out.keep (HF.out.fresh_no FC.out) (fun k _ => not_no k))).mono ?_
      rintro e w4 ⟨rfl, F⟩
      have FD := hid (FC.out.fresh_no F)
      have N4 := hid (N3.out.keep F)
      clear F FC
      go_wp2_with fail
      refine (syncN N4.out).mono ?_
      rintro e w5 ⟨rfl, F⟩
      have FE := hid (FD.out.fresh_no F)
      have N5 := hid (N4.out.keep F)
      clear F FD
      go_wp2_with fail
      refine (cutN N5.out n).mono ?_
      rintro e w6 ⟨rfl, F⟩
      have FG := hid (FE.out.fresh_no F)
      have N6 := hid (N5.out.keep F)
      clear F FE
      go_wp2_with fail
      refine (downN N6.out).mono ?_
      rintro e w7 ⟨rfl, F⟩
      have FH := hid (FG.out.fresh_no F)
      have N7 := hid (N6.out.keep F)
      clear F FG
      go_wp2_with fail
      refine (sizeN N7.out).mono ?_
      rintro e w8 ⟨rfl, F⟩
      have FI := hid (FH.out.fresh_no F)
      have N8 := hid (N7.out.keep F)
      clear F FH
      go_wp2_with fail
      refine (syncedN N8.out).mono ?_
      rintro e w9 ⟨rfl, F⟩
      have FJ := hid (FI.out.fresh_no F)
      clear F FI
      go_wp2_with fail
      go_roundg (2 - (i + 1))
      case measure => have := HQ.out; omega
      case rel =>
        obtain ⟨cs, h1, h2⟩ := HB.out
        exact ⟨i + 1, by go_num, by omega, rfl, ⟨cs, h1.keep FJ.out (not_no _), h2⟩, HP.out.keep FJ.out (not_no _), HF.out.fresh_no FJ.out⟩
    · have hie : i = 2 := by omega
      subst hie
      go_wp2_with fail
      refine (awake_c _).mono ?_
      rintro e w5 ⟨rfl, B⟩
      have F5 := hid (HF.out.fresh_no B)
      clear B
      go_wp2_with fail
      go_ret
      exact ⟨rfl, F5.out⟩
end Go.Proofs.Ytfilmehekibmbaa
