import Derived.Test.YtdlabicepppfaaaBytesA
import Derived.Deep.Light
/-! The contracts of package bytes: reading. -/
namespace Go.Proofs.Ytdlabicepppfaaa
open Go.RowKit
set_option linter.unusedVariables false

/-- the answer of GetUint -/
def RetU (w : World) (r : Nat × Nat × Nat) : Ending → World → Prop := fun en w' => en = .returned (.tuple #[.int .u64 r.1, .int .i64 r.2.1, .int .i64 r.2.2]) ∧ w' = w

set_option maxRecDepth 100000 in
set_option maxHeartbeats 1000000 in
theorem getUint_bad (y : Value) (ys : List UInt8) (a : Int) (w : World) (hy : RdB w y ys) (hl : ys.length ≤ 140737488355328) (ha : a < 0 ∨ (ys.length : Int) < a) :
    Calls Try.prog 13 #[y, .int .i64 a] w (RetU w (0, 0, 2)) := by
  obtain ⟨A, c, rfl, hc⟩ := hy.slice
  by_cases h0 : a < 0
  · clear ha
    go_enter Try.func13, Try.ntmps13
    go_wp2
    go_ret3
    exact ⟨rfl, rfl⟩
  · have h1 : (ys.length : Int) < a := by omega
    clear ha
    go_enter Try.func13, Try.ntmps13
    go_wp2
    go_ret3
    exact ⟨rfl, rfl⟩

set_option maxRecDepth 100000 in
set_option maxHeartbeats 1000000 in
theorem getUint_ok (y : Value) (ys : List UInt8) (a : Nat) (w : World) (hy : RdB w y ys) (hl : ys.length ≤ 140737488355328) (ha : a ≤ ys.length) (r q : Nat × Nat × Nat) (hr : gu (ys.drop a) 0 0 = r) (hq : (if r.2.2 = 0 then (r.1, a + r.2.1, 0) else r) = q) :
    Calls Try.prog 13 #[y, .int .i64 a] w (RetU w q) := by
  obtain ⟨A, c, rfl, hc⟩ := hy.slice
  have HR := hid hr
  have HQ := hid hq
  have HY := hid hy
  have h1 : decide (ys.length < a) = false := by simp; omega
  clear hr hy hq
  go_enter Try.func13, Try.ntmps13
  go_wp2
  go_loopg [7, 18] 10 (fun k v0 v1 w' => ∃ (i n : Nat), v0 = .int .u64 n ∧ v1 = .int .i64 i ∧ i ≤ 10 ∧ k = 10 - i ∧ Hid (n < 128 ^ i) ∧ Hid (gu (ys.drop (a + i)) i n = r) ∧ a + i ≤ ys.length ∧ w' = w)
  case atStart => exact ⟨0, 0, rfl, rfl, by omega, rfl, by simp [Hid], HR, by omega, rfl⟩
  case round =>
    obtain ⟨i, n, rfl, rfl, hi, hk, HN, HG, hai, rfl⟩ := hrel
    have HK := hid hk
    clear hk
    by_cases c1 : i < 10
    · by_cases c2 : a + i = ys.length
      · have c2' : ((a : Int) + i == ys.length) = true := by simp; omega
        have HC := hid c2
        clear c2
        go_wp2
        go_ret3
        have e : r = (0, 0, 11) := by
          rw [← HG.out, List.drop_eq_nil_of_le (by have := HC.out; omega), gu_nil c1]
        have e2 := HQ.out
        subst e
        rw [← e2]
        exact ⟨rfl, rfl⟩
      · have hlt : a + i < ys.length := by omega
        obtain ⟨b, off, hA, hcell⟩ := HY.out.at_ hlt
        subst hA
        obtain ⟨x, hx⟩ : ∃ x : UInt8, x = ys[a+i]'hlt := ⟨_, rfl⟩
        rw [← hx] at hcell
        have HX := hid hx
        clear hx
        have hx2 := x.toNat_lt
        have h2 : ((a : Int) + i == ys.length) = false := by simp; omega
        clear c2
        have HD : Hid (ys.drop (a + i) = x :: ys.drop (a + i + 1)) := by unfold Hid; rw [HX.out, List.drop_eq_getElem_cons hlt]
        have hbad : ((i = 9 ∧ 1 < x.toNat) ∨ (x.toNat = 0 ∧ 0 < i)) → q = (0, 0, 10) := fun h => by
          have e : r = (0, 0, 10) := by rw [← HG.out, HD.out, gu_bad c1 h]
          have e2 := HQ.out
          rw [e] at e2
          exact e2.symm
        have hlast : ¬ ((i = 9 ∧ 1 < x.toNat) ∨ (x.toNat = 0 ∧ 0 < i)) → x.toNat < 128 → q = (n + x.toNat % 128 * 128 ^ i, a + i + 1, 0) := fun h h' => by
          have e : r = (n + x.toNat % 128 * 128 ^ i, i + 1, 0) := by rw [← HG.out, HD.out, gu_last c1 h h']
          have e2 := HQ.out
          rw [e] at e2
          exact e2.symm
        have hmore : ¬ ((i = 9 ∧ 1 < x.toNat) ∨ (x.toNat = 0 ∧ 0 < i)) → 128 ≤ x.toNat → gu (ys.drop (a + (i + 1))) (i + 1) (n + x.toNat % 128 * 128 ^ i) = r := fun h h' => by
          rw [← HG.out, HD.out, gu_more c1 h h', Nat.add_assoc]
        have HB := hid hbad
        have HLA := hid hlast
        have HM := hid hmore
        clear hbad hlast hmore
        have ok : ∀ (X : Int) (p3 p4 : Int), X = ((n + x.toNat % 128 * 128 ^ i : Nat) : Int) → q = (n + x.toNat % 128 * 128 ^ i, a + i + 1, 0) → p3 = a + i + 1 → p4 = 0 →
            RetU wr q (.returned (.tuple #[.int .u64 X, .int .i64 p3, .int .i64 p4])) wr := fun X p3 p4 hX hq h3 h4 => by
          subst hX hq h3 h4; exact ⟨by simp, rfl⟩
        have bad : q = (0, 0, 10) → RetU wr q (.returned (.tuple #[.int .u64 0, .int .i64 0, .int .i64 10])) wr := fun hq => by subst hq; exact ⟨rfl, rfl⟩
        have OK := hid ok
        have BAD := hid bad
        clear ok bad
        go_wp2
        · go_ret3; go_light; exact BAD.out (HB.out (.inr ⟨by assumption, by omega⟩))
        · go_ret3; go_light; exact OK.out _ _ _ (by have e : i = 9 := (by omega); exact gu_val n i x _ _ (by rw [e]; rfl) rfl HN.out c1 (fun _ => by omega)) (HLA.out (by omega) (by omega)) (by omega) rfl
        · go_ret3; go_light; exact BAD.out (HB.out (.inl ⟨by omega, by omega⟩))
        · go_ret3; go_light; exact BAD.out (HB.out (.inr ⟨by assumption, by omega⟩))
        · go_ret3; go_light; exact OK.out _ _ _ (gu_val n i x _ _ rfl (by omega) HN.out c1 (fun _ => by omega)) (HLA.out (by omega) (by omega)) (by omega) rfl
        · go_ret3; go_light; exact OK.out _ _ _ (gu_val n i x _ _ rfl (by omega) HN.out c1 (fun _ => by omega)) (HLA.out (by omega) (by omega)) (by omega) rfl
        · go_roundg (10 - (i + 1))
          case measure => go_light; have := HK.out; omega
          case rel =>
            go_light
            have e := gu_val n i x _ _ rfl rfl HN.out c1 (fun _ => by omega)
            rw [e]
            exact ⟨i + 1, _, rfl, by go_num, by omega, rfl, gu_lt n i _ HN.out, HM.out (by omega) (by omega), by omega, rfl⟩
    · have e10 : i = 10 := by omega
      go_wp2
      go_ret3
      have e : r = (0, 0, 10) := by rw [← HG.out, gu_cap (by omega)]
      have e2 := HQ.out
      rw [e] at e2
      rw [← e2]
      exact ⟨rfl, rfl⟩


/-- GetUint, whatever the place -/
theorem getUint_c (y : Value) (ys : List UInt8) (a : Int) (w : World) (hy : RdB w y ys) (hl : ys.length ≤ 140737488355328) (q : Nat × Nat × Nat) (hq : getU ys a = q) :
    Calls Try.prog 13 #[y, .int .i64 a] w (RetU w q) := by
  unfold getU at hq
  by_cases h : a < 0 ∨ (ys.length : Int) < a
  · rw [if_pos h] at hq
    subst hq
    exact getUint_bad y ys a w hy hl h
  · rw [if_neg h] at hq
    obtain ⟨k, rfl⟩ := Int.eq_ofNat_of_zero_le (show 0 ≤ a by omega)
    exact getUint_ok y ys k w hy hl (by omega) _ q rfl hq

end Go.Proofs.Ytdlabicepppfaaa
