import Derived.Test.YtdlabicepppfaaaProg
import Derived.Test.YtdlabicepppfaaaBase
import Derived.Test.YtdlabicepppfaaaMath
/-! The contracts of package bytes: varints. -/
namespace Go.Proofs.Ytdlabicepppfaaa
open Go.RowKit
set_option linter.unusedVariables false

theorem infoU8 : (Try.prog.info? 5).map (fun i => (i.zero, i.size, i.bytes)) = some (some (.int .u8 0), 1, 1) := by kernel_rfl

/-- a row of bytes of the call's own comes back -/
def RetB (w : World) (S : Nat → Prop) (xs : List UInt8) : Ending → World → Prop := fun en w' => ∃ v', en = .returned v' ∧ OwnB 5 w' v' xs ∧ Fr S w w' ∧ Grows w S v'

theorem uint_or (n : Nat) : [Value.int .u8 (Go.bits .or .u8 ((n : Int) % 256) 128)] = bvs [UInt8.ofNat (n % 128 + 128)] := by rw [u8_or]; rfl
theorem uint_low (n : Nat) (h : n < 128) : [Value.int .u8 (n : Int)] = bvs [UInt8.ofNat n] := by simp [bvs, bv]; omega

set_option maxRecDepth 100000 in
set_option maxHeartbeats 400000 in
theorem uint_c (v : Value) (xs : List UInt8) (a : Nat) (ha : a < 18446744073709551616) (w : World) (h : OwnB 5 w v xs) (hb : xs.length ≤ 140737488300000) :
    Calls Try.prog 10 #[v, .int .u64 a] w (RetB w (Of v) (xs ++ varint a)) := by
  have HL := hid (varint_len64 ha)
  have HA := hid ha
  have HB := hid hb
  clear ha hb
  go_enter Try.func10, Try.ntmps10
  go_wp2
  go_loopg [0, 1] a (fun m v0 v1 w' => ∃ (pre : List UInt8), v1 = .int .u64 m ∧ m ≤ a ∧ Hid (pre ++ varint m = varint a) ∧ Hid (OwnB 5 w' v0 (xs ++ pre)) ∧ Hid (Fr (Of v) w w') ∧ Hid (Grows w (Of v) v0))
  case atStart => exact ⟨[], rfl, Nat.le_refl _, rfl, by simpa [Hid] using h, Fr.refl _ _, Grows.self _ _⟩
  case round =>
    obtain ⟨pre, rfl, hm, H1, H2, H3, H4⟩ := hrel
    have hbd : (xs ++ pre).length + 1 ≤ 140737488355328 := by
      have h1 := congrArg List.length H1.out
      have h2 := HL.out
      have h3 := HB.out
      have := varint_len_pos gk
      rw [List.length_append] at h1 ⊢
      omega
    have HBD := hid hbd
    clear hbd
    by_cases c : 128 ≤ gk
    · have HO := hid (uint_or gk)
      go_wp2_with (at_builtin; refine wpl_appB _ rfl (.tmp 7) (.tmp 11) _ rfl 5 Try.underlying24 infoU8 _ _ rfl (H2.out.alloc _) _ [UInt8.ofNat (gk % 128 + 128)] rfl (RdB.lit _ _ _ _ _ (by first | exact HO.out | (simp; exact HO.out)) rfl) HBD.out ?_; intro v1 w1 A1 A2 A3)
      go_roundg (gk / 128)
      case measure => omega
      case rel =>
        have HF : Fr (Of v) w w1 := (H3.out.alloc _).trans A2.out (fun k hk hS => by rcases H4.out k hS with h1 | h1; exact h1; omega)
        exact ⟨pre ++ [UInt8.ofNat (gk % 128 + 128)], by go_num, by omega, by unfold Hid; rw [← H1.out, varint_big c, List.append_assoc]; rfl, by rw [← List.append_assoc]; exact A1, HF, H4.out.trans A3.out (by simp; have := H3.out.size; omega)⟩
    · have HO := hid (uint_low gk (by omega))
      go_wp2_with (at_builtin; refine wpl_appB _ rfl (.tmp 15) (.tmp 18) _ rfl 5 Try.underlying24 infoU8 _ _ rfl (H2.out.alloc _) _ [UInt8.ofNat gk] rfl (RdB.lit _ _ _ _ _ (by first | exact HO.out | (simp; exact HO.out)) rfl) HBD.out ?_; intro v1 w1 A1 A2 A3)
      go_ret
      refine ⟨v1, rfl, ?_, (H3.out.alloc _).trans A2.out (fun k hk hS => by rcases H4.out k hS with h1 | h1; exact h1; omega), H4.out.trans A3.out (by simp; have := H3.out.size; omega)⟩
      rw [← H1.out, varint_small (by omega), ← List.append_assoc]
      exact A1


theorem uint_x (v : Value) (xs : List UInt8) (x : Int) (a : Nat) (hx : x = a) (ha : a < 18446744073709551616) (w : World) (h : OwnB 5 w v xs) (hb : xs.length ≤ 140737488300000) :
    Calls Try.prog 10 #[v, .int .u64 x] w (RetB w (Of v) (xs ++ varint a)) := by
  subst hx
  exact uint_c v xs a ha w h hb

set_option maxRecDepth 100000 in
set_option maxHeartbeats 400000 in
theorem int_c (v : Value) (xs : List UInt8) (m : Int) (h1 : -9223372036854775808 ≤ m) (h2 : m ≤ 9223372036854775807) (w : World) (h : OwnB 5 w v xs) (hb : xs.length ≤ 140737488300000) :
    Calls Try.prog 11 #[v, .int .i64 m] w (RetB w (Of v) (xs ++ varint (zz m))) := by
  have HZ := hid (zz_bits m h1 h2)
  have HL := hid (zz_lt h1 h2)
  have HB := hid hb
  have H := hid h
  clear h1 h2 hb h
  go_enter Try.func11, Try.ntmps11
  go_wp2_with (go_at_call 10; refine (uint_x v xs _ (zz m) HZ.out HL.out _ H.out HB.out).mono ?_; rintro e w1 ⟨v1, rfl, A1, A2, A3⟩)
  go_ret
  exact ⟨v1, rfl, A1, A2, A3⟩

set_option maxRecDepth 100000 in
set_option maxHeartbeats 400000 in
theorem blob_c (v : Value) (xs : List UInt8) (y : Value) (ys : List UInt8) (w : World) (h : OwnB 5 w v xs) (hy : RdB w y ys) (hne : 0 < ys.length → ∀ k, Of y k → ¬ Of v k) (hb : xs.length + ys.length ≤ 140737488300000) :
    Calls Try.prog 17 #[v, y] w (RetB w (Of v) (xs ++ varint ys.length ++ ys)) := by
  obtain ⟨A, c, rfl, hc⟩ := hy.slice
  have HU := hid (show (IntKind.u64.wrap (ys.length : Int)) = ((ys.length : Nat) : Int) by simp [IntKind.wrap, IntKind.bits, IntKind.signed]; omega)
  have HL := hid (show ys.length < 18446744073709551616 by omega)
  have HB := hid (show xs.length ≤ 140737488300000 by omega)
  have HB2 := hid (show (xs ++ varint ys.length).length + ys.length ≤ 140737488355328 by have := varint_len64 (n := ys.length) (by omega); rw [List.length_append]; omega)
  have H := hid h
  have HY := hid hy
  have HN := hid hne
  clear h hy hne hb hc
  go_enter Try.func17, Try.ntmps17
  go_wp2_with (first
    | (go_at_call 10; refine (uint_x v xs _ ys.length (by first | rfl | exact HU.out) HL.out _ H.out HB.out).mono ?_; rintro e w1 ⟨v1, rfl, A1', A2', A3'⟩; have A1 := hid A1'; have A2 := hid A2'; have A3 := hid A3'; clear A1' A2' A3')
    | (at_builtin; refine wpl_appB _ rfl (.tmp 9) (.tmp 10) _ rfl 5 Try.underlying24 infoU8 _ _ rfl A1.out _ _ rfl (HY.out.keep_ A2.out HN.out) HB2.out ?_; intro v2 w2 B1 B2 B3))
  go_ret
  exact ⟨v2, rfl, B1, A2.out.trans B2.out (fun k hk hS => by rcases A3.out k hS with h1 | h1; exact h1; omega), A3.out.trans B3.out A2.out.size⟩
end Go.Proofs.Ytdlabicepppfaaa
