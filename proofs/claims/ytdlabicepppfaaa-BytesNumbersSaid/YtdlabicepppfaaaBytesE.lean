import Derived.Test.YtdlabicepppfaaaBytesD
/-! The contracts of package bytes: sealed bytes, signed numbers, blobs. -/
namespace Go.Proofs.Ytdlabicepppfaaa
open Go.RowKit
set_option linter.unusedVariables false

/-- sealed bytes -/
def sealB (xs : List UInt8) : List UInt8 := xs ++ four (crc xs)

theorem four_x (v : Value) (xs : List UInt8) (x : Int) (n : Nat) (hx : x = n) (hn : n < 4294967296) (w : World) (h : OwnB 5 w v xs) (hb : xs.length ≤ 140737488355000) :
    Calls Try.prog 27 #[v, .int .u32 x] w (RetB w (Of v) (xs ++ four n)) := by
  subst hx
  exact four_c v xs n hn w h hb

set_option maxRecDepth 100000 in
set_option maxHeartbeats 1000000 in
theorem seal_c (y : Value) (ys : List UInt8) (w : World) (hy : RdB w y ys) (hl : ys.length ≤ 140737488355000) :
    Calls Try.prog 21 #[y] w (RetB w No (sealB ys)) := by
  have HY := hid hy
  have HL := hid (show ys.length ≤ 140737488355328 by omega)
  have HL2 := hid hl
  clear hy hl
  go_enter Try.func21, Try.ntmps21
  go_wp2_with (first
    | (go_at_call 26; refine (clone_c y ys _ HY.out HL.out).mono ?_; rintro e w1 ⟨v1, rfl, A1', A2', A3'⟩; have A1 := hid A1'; have A2 := hid A2'; have A3 := hid A3'; clear A1' A2' A3')
    | (go_at_call 16; refine (crc_c y ys _ (HY.out.keep A2.out (fun k _ => not_no k)) HL.out).mono ?_; rintro e w2 ⟨rfl, rfl⟩)
    | (go_at_call 27; refine (four_x v1 ys _ (crc ys) rfl (crc_lt ys) _ A1.out HL2.out).mono ?_; rintro e w3 ⟨v3, rfl, B1', B2', B3'⟩; have B1 := hid B1'; have B2 := hid B2'; have B3 := hid B3'; clear B1' B2' B3'))
  go_ret
  exact ⟨v3, rfl, B1.out, A2.out.trans B2.out (fun k hk hS => by rcases A3.out k hS with h1 | h1; exact h1; omega), A3.out.trans B3.out A2.out.size⟩

/-- the answer of Unseal -/
def unsealB (xs : List UInt8) : List UInt8 × Nat :=
  if xs.length < 4 then ([], 11) else if num4 (xs.drop (xs.length - 4)) ≠ crc (xs.take (xs.length - 4)) then ([], 12) else (xs.take (xs.length - 4), 0)

/-- a row of bytes and an error come back -/
def RetBE (w : World) (S : Nat → Prop) (r : List UInt8 × Nat) : Ending → World → Prop := fun en w' => ∃ v', en = .returned (.tuple #[v', .int .i64 r.2]) ∧ OwnB 5 w' v' r.1 ∧ Fr S w w' ∧ Grows w S v'

set_option maxRecDepth 100000 in
set_option maxHeartbeats 1000000 in
theorem unseal_c (y : Value) (ys : List UInt8) (w : World) (hy : RdB w y ys) (hl : ys.length ≤ 140737488355000) (r : List UInt8 × Nat) (hr : unsealB ys = r) :
    Calls Try.prog 22 #[y] w (RetBE w No r) := by
  have HN : ∀ (w : World), Grows w No (.slice none 0 0) := fun w k hk => absurd hk Of_none
  by_cases c1 : ys.length < 4
  · have HR : r = ([], 11) := by rw [← hr]; unfold unsealB; rw [if_pos c1]
    subst HR
    obtain ⟨A, c, rfl, hc⟩ := hy.slice
    have HNN := hid HN
    clear hr hy HN
    go_enter Try.func22, Try.ntmps22
    go_wp2
    go_ret2
    exact ⟨_, rfl, OwnB.nil _ _, Fr.refl _ _, HNN.out _⟩
  · obtain ⟨m, hm⟩ : ∃ m, ys.length = m + 4 := ⟨ys.length - 4, by omega⟩
    obtain ⟨A, c, rfl, hc⟩ := hy.slice
    have hd := hy.drop (m := m) (c' := c - m) (by omega) (by omega)
    have ht := hy.take (m := m) (c' := c) (by omega) (by omega)
    have hu : r = if num4 (ys.drop m) ≠ crc (ys.take m) then ([], 12) else (ys.take m, 0) := by
      rw [← hr]; unfold unsealB; rw [if_neg c1, show ys.length - 4 = m by omega]
    rw [show ys.length - m = 4 by omega, if_neg (by omega)] at hd
    have HD := hid hd
    have HT := hid ht
    have hl4 : (ys.drop m).length = 4 := by simp; omega
    have HL4 := hid hl4
    have HL5 := hid (show (ys.take m).length ≤ 140737488355328 by simp; omega)
    rw [hm] at hc ⊢
    have q0 : (m : Int) ≤ c := by omega
    have hmb : m ≤ 140737488355000 := by omega
    have q1 : (m : Int) + 4 ≤ c := by omega
    clear hd ht hl4 hr hy hc c1 hl hm
    have HNN := hid HN
    clear HN
    by_cases c2 : num4 (ys.drop m) = crc (ys.take m)
    · have HR : r = (ys.take m, 0) := by rw [hu, if_neg (by simpa using c2)]
      subst HR
      have hb : (((num4 (ys.drop m) : Nat) : Int) != ((crc (ys.take m) : Nat) : Int)) = false := by simp [c2]
      clear c2 hu
      go_enter Try.func22, Try.ntmps22
      go_wp2
      go_quiet ((first
        | (go_at_call 28; exact Calls.quiet_of (number_c _ _ _ (HD.out.drewN _) (by rw [HL4.out]; omega) (by rw [HL4.out]; omega)))
        | (go_at_call 16; exact Calls.quiet_of_same (crc_c _ _ _ (HT.out.drewN _) HL5.out))))
      go_wp2_with (go_at_call 26; refine (clone_c _ _ _ (HT.out.drewN _) HL5.out).mono ?_; rintro e w1 ⟨v1, rfl, A1, A2, A3⟩)
      go_ret2
      exact ⟨v1, rfl, A1, ((Fr.refl No w).drewN _).trans A2 (fun k _ hS => hS), A3⟩
    · have HR : r = ([], 12) := by rw [hu, if_pos (by simpa using c2)]
      subst HR
      have hb : (((num4 (ys.drop m) : Nat) : Int) != ((crc (ys.take m) : Nat) : Int)) = true := by rw [bne_iff_ne]; omega
      clear c2 hu
      go_enter Try.func22, Try.ntmps22
      go_wp2
      go_quiet ((first
        | (go_at_call 28; exact Calls.quiet_of (number_c _ _ _ (HD.out.drewN _) (by rw [HL4.out]; omega) (by rw [HL4.out]; omega)))
        | (go_at_call 16; exact Calls.quiet_of_same (crc_c _ _ _ (HT.out.drewN _) HL5.out))))
      go_wp2_with fail
      go_ret2
      exact ⟨_, rfl, OwnB.nil _ _, (Fr.refl No w).drewN _, HNN.out _⟩

set_option maxRecDepth 100000 in
set_option maxHeartbeats 1000000 in
theorem is_c (x y : Value) (xs ys : List UInt8) (w : World) (hx : RdB w x xs) (hy : RdB w y ys) (b : Bool) (hb : decide (xs = ys) = b) :
    Calls Try.prog 25 #[x, y] w fun en w' => en = .returned (.bool b) ∧ w' = w := by
  have HX := hid hx
  have HY := hid hy
  clear hx hy
  subst hb
  go_enter Try.func25, Try.ntmps25
  go_wp2_with (go_at_call 15; refine (same_c x y xs ys _ HX.out HY.out).mono ?_; rintro e w1 ⟨rfl, rfl⟩)
  go_ret
  exact ⟨rfl, rfl⟩

set_option maxRecDepth 100000 in
set_option maxHeartbeats 1000000 in
theorem getInt_c (y : Value) (ys : List UInt8) (a : Int) (w : World) (hy : RdB w y ys) (hl : ys.length ≤ 140737488355328) (q : Nat × Nat × Nat) (hq : getU ys a = q) :
    Calls Try.prog 18 #[y, .int .i64 a] w fun en w' => en = .returned (.tuple #[.int .i64 (unzz q.1), .int .i64 q.2.1, .int .i64 q.2.2]) ∧ w' = w := by
  have HY := hid hy
  have HQ := hid hq
  have HZ := hid (unzz_bits q.1 (by rw [← hq]; exact getU_lt _ _))
  clear hy hq
  obtain ⟨q1, q2, q3⟩ := q
  go_enter Try.func18, Try.ntmps18
  go_wp2_with (go_at_call 13; refine (getUint_c y ys a _ HY.out hl _ HQ.out).mono ?_; rintro e w1 ⟨rfl, rfl⟩)
  go_ret3
  refine ⟨congrArg (fun i => Ending.returned (.tuple #[.int .i64 i, .int .i64 q2, .int .i64 q3])) ?_, rfl⟩
  show Go.bits .xor .i64 (wrap64 ((q1 : Int) / 2)) (wrap64 (-wrap64 (Go.bits .and .u64 q1 1))) = unzz q1
  rw [← HZ.out]
  simp only [IntKind.wrap_i64, wrap64]


/-- the answer of GetBlob -/
def getB (ys : List UInt8) (a most : Int) : List UInt8 × Nat × Nat :=
  let q := getU ys a
  if q.2.2 ≠ 0 then ([], 0, q.2.2) else if most < 0 ∨ most < (q.1 : Int) then ([], 0, 3) else if ys.length - q.2.1 < q.1 then ([], 0, 11) else ((ys.drop q.2.1).take q.1, q.2.1 + q.1, 0)

/-- a row of bytes, a place and an error come back -/
def RetBIE (w : World) (S : Nat → Prop) (r : List UInt8 × Nat × Nat) : Ending → World → Prop := fun en w' => ∃ v', en = .returned (.tuple #[v', .int .i64 r.2.1, .int .i64 r.2.2]) ∧ OwnB 5 w' v' r.1 ∧ Fr S w w' ∧ Grows w S v'

set_option maxRecDepth 100000 in
set_option maxHeartbeats 1000000 in
theorem getBlob_ok (y : Value) (ys : List UInt8) (a most : Int) (w : World) (hy : RdB w y ys) (hl : ys.length ≤ 140737488355328) (q1 q2 : Nat) (hq : getU ys a = (q1, q2, 0)) (h1 : 0 ≤ most) (h2 : (q1 : Int) ≤ most) (h2' : most ≤ 9223372036854775807) (h3 : q2 + q1 ≤ ys.length) :
    Calls Try.prog 19 #[y, .int .i64 a, .int .i64 most] w (RetBIE w No ((ys.drop q2).take q1, q2 + q1, 0)) := by
  obtain ⟨A, c, rfl, hc⟩ := hy.slice
  have hd := (hy.drop (m := q2) (c' := c - q2) (by omega) (by omega))
  rw [show ys.length - q2 = (ys.drop q2).length by simp] at hd
  have hd := hd.take (m := q1) (c' := c - q2) (by simp; omega) (by omega)
  have HL3 := hid (show ((ys.drop q2).take q1).length ≤ 140737488355328 by simp; omega)
  have HY := hid hy
  have HQ := hid hq
  have HD := hid hd
  have HW : Hid (IntKind.u64.wrap most = most) := by unfold Hid; rw [IntKind.wrap_u64]; omega
  have HW2 : Hid (IntKind.u64.wrap ((ys.length : Int) - q2) = (ys.length : Int) - q2) := by unfold Hid; rw [IntKind.wrap_u64]; omega
  clear hy hq hd
  go_enter Try.func19, Try.ntmps19
  go_wp2_with (first
    | (go_at_call 13; refine (getUint_c _ ys a _ HY.out hl _ HQ.out).mono ?_; rintro e w1 ⟨rfl, rfl⟩)
    | (go_at_call 26; go_loud (refine (clone_c _ ((ys.drop q2).take q1) _ HD.out HL3.out).mono ?_); rintro e w2 ⟨v1, rfl, A1, A2, A3⟩))
  all_goals (go_ret3; exact ⟨v1, by simp, A1, A2, A3⟩)


theorem grows_nil (w : World) : Grows w No (.slice none 0 0) := fun k hk => absurd hk Of_none

set_option maxRecDepth 100000 in
set_option maxHeartbeats 1000000 in
theorem getBlob_err (y : Value) (ys : List UInt8) (a most : Int) (w : World) (hy : RdB w y ys) (hl : ys.length ≤ 140737488355328) (q1 q2 q3 : Nat) (hq : getU ys a = (q1, q2, q3)) (h0 : q3 ≠ 0) (h3 : q3 < 100) :
    Calls Try.prog 19 #[y, .int .i64 a, .int .i64 most] w (RetBIE w No ([], 0, q3)) := by
  have HY := hid hy
  have HQ := hid hq
  have hb : ((q3 : Int) != 0) = true := by simp; omega
  clear hy hq
  go_enter Try.func19, Try.ntmps19
  go_wp2_with (go_at_call 13; refine (getUint_c _ ys a _ HY.out hl _ HQ.out).mono ?_; rintro e w1 ⟨rfl, rfl⟩)
  go_ret3
  exact ⟨_, rfl, OwnB.nil _ _, Fr.refl _ _, grows_nil _⟩

set_option maxRecDepth 100000 in
set_option maxHeartbeats 1000000 in
theorem getBlob_long (y : Value) (ys : List UInt8) (a most : Int) (w : World) (hy : RdB w y ys) (hl : ys.length ≤ 140737488355328) (q1 q2 : Nat) (hq : getU ys a = (q1, q2, 0)) (h0 : most < 0 ∨ most < (q1 : Int)) (h1 : most ≤ 9223372036854775807) :
    Calls Try.prog 19 #[y, .int .i64 a, .int .i64 most] w (RetBIE w No ([], 0, 3)) := by
  have HY := hid hy
  have HQ := hid hq
  clear hy hq
  by_cases hneg : most < 0
  · clear h0
    go_enter Try.func19, Try.ntmps19
    go_wp2_with (go_at_call 13; refine (getUint_c _ ys a _ HY.out hl _ HQ.out).mono ?_; rintro e w1 ⟨rfl, rfl⟩)
    go_ret3
    exact ⟨_, rfl, OwnB.nil _ _, Fr.refl _ _, grows_nil _⟩
  · have hlt : most < (q1 : Int) := by omega
    have hge : 0 ≤ most := by omega
    clear h0
    go_enter Try.func19, Try.ntmps19
    go_wp2_with (go_at_call 13; refine (getUint_c _ ys a _ HY.out hl _ HQ.out).mono ?_; rintro e w1 ⟨rfl, rfl⟩)
    go_ret3
    exact ⟨_, rfl, OwnB.nil _ _, Fr.refl _ _, grows_nil _⟩

set_option maxRecDepth 100000 in
set_option maxHeartbeats 1000000 in
theorem getBlob_short (y : Value) (ys : List UInt8) (a most : Int) (w : World) (hy : RdB w y ys) (hl : ys.length ≤ 140737488355328) (q1 q2 : Nat) (hq : getU ys a = (q1, q2, 0)) (h0 : (q1 : Int) ≤ most) (h1 : most ≤ 9223372036854775807) (h2 : q2 ≤ ys.length) (h3 : (ys.length : Int) - q2 < q1) :
    Calls Try.prog 19 #[y, .int .i64 a, .int .i64 most] w (RetBIE w No ([], 0, 11)) := by
  obtain ⟨A, c, rfl, hc⟩ := hy.slice
  have HY := hid hy
  have HQ := hid hq
  clear hy hq
  have hge : 0 ≤ most := by omega
  go_enter Try.func19, Try.ntmps19
  go_wp2_with (go_at_call 13; refine (getUint_c _ ys a _ HY.out hl _ HQ.out).mono ?_; rintro e w1 ⟨rfl, rfl⟩)
  go_ret3
  exact ⟨_, rfl, OwnB.nil _ _, Fr.refl _ _, grows_nil _⟩
end Go.Proofs.Ytdlabicepppfaaa
