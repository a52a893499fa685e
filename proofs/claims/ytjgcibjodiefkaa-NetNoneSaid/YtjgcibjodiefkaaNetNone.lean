import Derived.Test.YtjgcibjodiefkaaNetF
import Derived.Test.YtjgcibjodiefkaaRowKit
/-! NetNone: a net that New did not make answers nothing and ErrNil. -/
namespace Go.Proofs.Ytjgcibjodiefkaa
open Go.RowKit
set_option linter.unusedVariables false
set_option linter.unusedSimpArgs false

/-- no net, or one that New did not make -/
def NoneAt (w : World) (p : Value) : Prop := p = .pointer none ∨ ∃ g cs, p = .pointer (some ⟨g, 0, none⟩) ∧ Blk w g 53 cs ∧ cs[0]? = some (.int .i64 0)
theorem NoneAt.keep {w w' : World} {p : Value} (h : NoneAt w p) (hf : Fr No w w') : NoneAt w' p := by
  rcases h with h | ⟨g, cs, h1, h2, h3⟩
  · exact .inl h
  · exact .inr ⟨g, cs, h1, h2.keep hf (not_no _), h3⟩
theorem none_no {w : World} {p : Value} (h : NoneAt w p) : Calls Try.prog 30 #[p] w fun e w' => e = .returned (.bool true) ∧ w' = w := by
  rcases h with rfl | ⟨g, cs, rfl, h2, h3⟩
  · exact none_nil w
  · exact (none_at g 0 w ((h2.cell 0).trans h3)).mono fun _ _ h => h
/-- an answer that leaves all as it was -/
def Ret1 (w : World) (r : Value) : Ending → World → Prop := fun e w' => e = .returned r ∧ Fr No w w'
def zeroG : Value := .agg #[.int .i64 0, .int .i64 0, .slice none 0 0]

set_option maxHeartbeats 1000000 in
theorem flyingN {w : World} {p : Value} (h : NoneAt w p) : Calls Try.prog 16 #[p] w (Ret1 w (.int .i64 0)) := by
  have H := hid h
  clear h
  go_enter Try.func16, Try.ntmps16
  go_wp2_with (first | (go_at_call 30; refine (none_no H.out).mono ?_; rintro e w1 ⟨rfl, rfl⟩))
  go_ret
  exact ⟨rfl, Fr.refl _ _⟩
set_option maxHeartbeats 1000000 in
theorem forgetN {w : World} {p : Value} (h : NoneAt w p) (i : Int) : Calls Try.prog 15 #[p, .int .i64 i] w (Ret1 w (.int .i64 0)) := by
  have H := hid (h.keep ((Fr.refl No w).alloc (.cells #[.int .i64 i] 3)))
  clear h
  go_enter Try.func15, Try.ntmps15
  go_wp2_with (first | (go_at_call 30; refine (none_no H.out).mono ?_; rintro e w1 ⟨rfl, rfl⟩))
  go_ret
  exact ⟨rfl, (Fr.refl _ _).alloc _⟩
set_option maxHeartbeats 1000000 in
theorem sendN {w : World} {p : Value} (h : NoneAt w p) (x y z : Value) : Calls Try.prog 11 #[p, x, y, z] w (Ret1 w (.int .i64 1)) := by
  have H := hid h
  clear h
  go_enter Try.func11, Try.ntmps11
  go_wp2_with (first | (go_at_call 30; refine (none_no H.out).mono ?_; rintro e w1 ⟨rfl, rfl⟩))
  go_ret
  exact ⟨rfl, Fr.refl _ _⟩
set_option maxHeartbeats 1000000 in
theorem copyN {w : World} {p : Value} (h : NoneAt w p) (i : Int) : Calls Try.prog 13 #[p, .int .i64 i] w (Ret1 w (.int .i64 1)) := by
  have H := hid h
  clear h
  go_enter Try.func13, Try.ntmps13
  go_wp2_with (first | (go_at_call 30; refine (none_no H.out).mono ?_; rintro e w1 ⟨rfl, rfl⟩))
  go_ret
  exact ⟨rfl, Fr.refl _ _⟩
set_option maxHeartbeats 1000000 in
theorem lookN {w : World} {p : Value} (h : NoneAt w p) (i : Int) : Calls Try.prog 12 #[p, .int .i64 i] w (Ret1 w (.tuple #[zeroG, .bool false])) := by
  have H := hid (h.keep ((Fr.refl No w).alloc (.cells #[.int .i64 0, .int .i64 0, .slice none 0 0] 29)))
  clear h
  go_enter Try.func12, Try.ntmps12
  go_wp2_with (first | (go_at_call 30; refine (none_no H.out).mono ?_; rintro e w1 ⟨rfl, rfl⟩))
  refine ⟨rfl, ?_⟩
  refine ⟨.tuple #[.agg #[.int .i64 0, .int .i64 0, .slice none 0 0], .bool false], ?_, ?_⟩
  · have hres : Try.f12.results = #[.cell 4 29, .tmp 5] := rfl
    simp [results, hres, asAddr]
    try go_simp
  · exact ⟨rfl, (Fr.refl No w).alloc _⟩
set_option maxHeartbeats 1000000 in
theorem takeN {w : World} {p : Value} (h : NoneAt w p) (i : Int) : Calls Try.prog 20 #[p, .int .i64 i] w (Ret1 w (.tuple #[zeroG, .bool false])) := by
  have H := hid (h.keep ((Fr.refl No w).alloc (.cells #[.int .i64 0, .int .i64 0, .slice none 0 0] 29)))
  clear h
  go_enter Try.func20, Try.ntmps20
  go_wp2_with fail
  refine (lookN H.out i).mono ?_
  rintro e w3 ⟨rfl, F3⟩
  have D1 := hid (((Blk.new w 29 #[.int .i64 0, .int .i64 0, .slice none 0 0]).keep F3 (not_no _)).alloc (.cells #[.int .i64 0, .int .i64 0, .slice none 0 0] 29))
  have D2 := hid (Blk.new w3 29 #[.int .i64 0, .int .i64 0, .slice none 0 0])
  obtain ⟨a0, a1, a2, af⟩ := D1.out.three
  obtain ⟨b0, b1, b2, bf⟩ := D2.out.three
  have HF3 := hid F3
  clear F3
  unfold zeroG
  go_wp2_with fail
  refine ⟨rfl, ?_⟩
  refine ⟨.tuple #[.agg #[.int .i64 0, .int .i64 0, .slice none 0 0], .bool false], ?_, ?_⟩
  · have hres : Try.f20.results = #[.cell 4 29, .tmp 5] := rfl
    simp [results, hres, asAddr]
    try go_simp
  · refine ⟨rfl, ?_⟩
    refine Fr.setCell (Fr.setCell (Fr.setCell ((((Fr.refl No w).alloc _).fresh_no HF3.out).alloc _) ?_ _) ?_ _) ?_ _ <;> exact fun h => absurd h (by simp)
set_option maxHeartbeats 1000000 in
theorem dropN {w : World} {p : Value} (h : NoneAt w p) (i : Int) : Calls Try.prog 14 #[p, .int .i64 i] w (Ret1 w (.bool false)) := by
  have H := hid h
  clear h
  go_enter Try.func14, Try.ntmps14
  go_wp2_with fail
  refine (takeN H.out i).mono ?_
  rintro e w3 ⟨rfl, F3⟩
  have HF3 := hid F3
  clear F3
  unfold zeroG
  go_wp2_with fail
  go_ret
  exact ⟨rfl, HF3.out.alloc _⟩

set_option maxRecDepth 100000 in
set_option maxHeartbeats 2000000 in
theorem netNone_c (n : Int) (y : Value) (xs : List UInt8) (w : World) (hy : InB w y xs) :
    Calls Try.prog 5 #[.int .i64 n, y] w (RetT w) := by
  obtain ⟨A, c, rfl, hc⟩ := hy.1.slice
  clear hy
  go_enter Try.func5, Try.ntmps5
  go_wp2_with fail
  go_loopg [17] 2 (fun q v17 w' => ∃ i : Nat, v17 = .int .i64 i ∧ i ≤ 2 ∧ q = 2 - i ∧
    Hid (∃ cs, Blk w' w.heap.size 53 cs ∧ cs[0]? = some (.int .i64 0)) ∧ Hid (Blk w' (w.heap.size + 1) 22 #[.pointer none, .pointer (some ⟨w.heap.size, 0, none⟩)]) ∧ Hid (Fr No w w'))
  case atStart =>
    refine ⟨0, rfl, by omega, rfl, ⟨_, (Blk.new w _ _).alloc _, rfl⟩, ?_, ((Fr.refl No w).alloc _).alloc _⟩
    exact Blk.new_ _ _ _ _ (by simp)
  case round =>
    obtain ⟨i, rfl, hi, hq, HB, HP, HF⟩ := hrel
    have HQ := hid hq
    clear hq
    by_cases d1 : i < 2
    · obtain ⟨p, hp, hn⟩ : ∃ p, wr.cell? ⟨w.heap.size + 1, i, none⟩ = some p ∧ NoneAt wr p := by
        rw [HP.out.cell i]
        obtain ⟨cs, h1, h2⟩ := HB.out
        rcases i with _ | _ | i
        · exact ⟨_, rfl, .inl rfl⟩
        · exact ⟨_, rfl, .inr ⟨_, cs, rfl, h1, h2⟩⟩
        · omega
      have i2 : (i : Int) < 2 := by omega
      have N0 := hid hn
      clear hn
      go_wp2_with fail
      refine (lookN N0.out n).mono ?_
      rintro e w1 ⟨rfl, F⟩
      have FA := hid (F.alloc (.cells #[.int .i64 0, .int .i64 0, .slice none 0 0] 29))
      have N1 := hid (N0.out.keep FA.out)
      have DA := hid (Blk.new w1 29 #[.int .i64 0, .int .i64 0, .slice none 0 0])
      clear F
      unfold zeroG
      go_wp2_with fail
      refine (takeN N1.out n).mono ?_
      rintro e w2 ⟨rfl, F⟩
      have hF2 := F.alloc (.cells #[.int .i64 0, .int .i64 0, .slice none 0 0] 29)
      have FB := hid (FA.out.fresh_no hF2)
      have N2 := hid (N1.out.keep hF2)
      have DA2 := hid (DA.out.keep hF2 (not_no _))
      have DB := hid (Blk.new w2 29 #[.int .i64 0, .int .i64 0, .slice none 0 0])
      clear F FA hF2 DA
      obtain ⟨a0, a1, a2, af⟩ := DA2.out.three
      unfold zeroG
      go_wp2_with fail
      refine (same_g _ 0 0 0 0 _ _ [] [] (RdB.nil _) (RdB.nil _) true (by decide)).mono ?_
      rintro e w3 ⟨rfl, F⟩
      have FC := hid (FB.out.fresh_no F)
      have N3 := hid (N2.out.keep F)
      have DB3 := hid (DB.out.keep F (not_no _))
      clear F FB a0 a1 a2 af DB
      obtain ⟨a0, a1, a2, af⟩ := DB3.out.three
      go_wp2_with fail
      refine (same_g _ 0 0 0 0 _ _ [] [] (RdB.nil _) (RdB.nil _) true (by decide)).mono ?_
      rintro e w4 ⟨rfl, F⟩
      have FD := hid (FC.out.fresh_no F)
      have N4 := hid (N3.out.keep F)
      clear F FC a0 a1 a2 af
      go_wp2_with fail
      refine (sendN N4.out _ _ _).mono ?_
      rintro e w5 ⟨rfl, F⟩
      have FE := hid (FD.out.fresh_no F)
      have N5 := hid (N4.out.keep F)
      clear F FD
      go_wp2_with fail
      refine (copyN N5.out n).mono ?_
      rintro e w6 ⟨rfl, F⟩
      have FG := hid (FE.out.fresh_no F)
      have N6 := hid (N5.out.keep F)
      clear F FE
      go_wp2_with fail
      refine (dropN N6.out n).mono ?_
      rintro e w7 ⟨rfl, F⟩
      have FH := hid (FG.out.fresh_no F)
      have N7 := hid (N6.out.keep F)
      clear F FG
      go_wp2_with fail
      refine (forgetN N7.out n).mono ?_
      rintro e w8 ⟨rfl, F⟩
      have FI := hid (FH.out.fresh_no F)
      have N8 := hid (N7.out.keep F)
      clear F FH
      go_wp2_with fail
      refine (flyingN N8.out).mono ?_
      rintro e w9 ⟨rfl, F⟩
      have FJ := hid (FI.out.fresh_no F)
      clear F FI
      go_wp2_with fail
      go_roundg (2 - (i + 1))
      case measure => have := HQ.out; omega
      case rel =>
        obtain ⟨cs, h1, h2⟩ := HB.out
        exact ⟨i + 1, by go_num, by omega, rfl, ⟨cs, h1.keep FJ.out (not_no _), h2⟩, HP.out.keep FJ.out (not_no _), HF.out.fresh_no FJ.out⟩
    · have hie : i = 2 := by omega
      subst hie
      go_wp2_with fail
      refine (awake_c _).mono ?_
      rintro e w5 ⟨rfl, B⟩
      have F5 := hid (HF.out.fresh_no B)
      clear B
      go_wp2_with fail
      go_ret
      exact ⟨rfl, F5.out⟩
end Go.Proofs.Ytjgcibjodiefkaa
