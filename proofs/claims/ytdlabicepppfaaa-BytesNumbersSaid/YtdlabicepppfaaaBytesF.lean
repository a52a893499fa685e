import Derived.Test.YtdlabicepppfaaaBytesE
/-! The contracts of the reference's varints, and of the statements' own 'wrong'. -/
namespace Go.Proofs.Ytdlabicepppfaaa
open Go.RowKit
set_option linter.unusedVariables false

theorem ref_hi (n : Nat) : [Value.int .u8 (((n : Int) % 128 + 128))] = bvs [UInt8.ofNat (n % 128 + 128)] := by simp [bvs, bv]; omega

set_option maxRecDepth 100000 in
set_option maxHeartbeats 1000000 in
theorem varint_ref (a : Nat) (ha : a < 18446744073709551616) (w : World) :
    Calls Try.prog 30 #[.int .u64 a] w (RetB w No (varint a)) := by
  have HL := hid (varint_len64 ha)
  have HA := hid ha
  clear ha
  go_enter Try.func30, Try.ntmps30
  go_wp2
  go_loopg [0, 3] a (fun m v1 v0 w' => ∃ (pre : List UInt8), v1 = .int .u64 m ∧ m ≤ a ∧ Hid (pre ++ varint m = varint a) ∧ Hid (OwnB 5 w' v0 pre) ∧ Hid (Fr No w w') ∧ Hid (Grows w No v0))
  case atStart => exact ⟨[], rfl, Nat.le_refl _, rfl, OwnB.nil _ _, Fr.refl _ _, grows_nil _⟩
  case round =>
    obtain ⟨pre, rfl, hm, H1, H2, H3, H4⟩ := hrel
    have hbd : pre.length + 1 ≤ 140737488355328 := by
      have h1 := congrArg List.length H1.out
      have h2 := HL.out
      have := varint_len_pos gk
      rw [List.length_append] at h1
      omega
    have HBD := hid hbd
    clear hbd
    by_cases c : 128 ≤ gk
    · have HO := hid (ref_hi gk)
      go_wp2_with (at_builtin; refine wpl_appB _ rfl (.tmp 6) (.tmp 11) _ rfl 5 Try.underlying24 infoU8 _ _ rfl (H2.out.alloc _) _ [UInt8.ofNat (gk % 128 + 128)] rfl (RdB.lit _ _ _ _ _ (by first | exact HO.out | (simp; exact HO.out)) rfl) HBD.out ?_; intro v1 w1 A1 A2 A3)
      go_roundg (gk / 128)
      case measure => omega
      case rel =>
        have HF : Fr No w w1 := (H3.out.alloc _).trans A2.out (fun k hk hS => by rcases H4.out k hS with h1 | h1; exact h1; omega)
        exact ⟨pre ++ [UInt8.ofNat (gk % 128 + 128)], congrArg (Value.int IntKind.u64) (by have := HA.out; rw [IntKind.wrap_u64]; omega), by omega, by unfold Hid; rw [← H1.out, varint_big c, List.append_assoc]; rfl, A1, HF, H4.out.trans A3.out (by simp; have := H3.out.size; omega)⟩
    · have HO := hid (uint_low gk (by omega))
      go_wp2_with (at_builtin; refine wpl_appB _ rfl (.tmp 15) (.tmp 18) _ rfl 5 Try.underlying24 infoU8 _ _ rfl (H2.out.alloc _) _ [UInt8.ofNat gk] rfl (RdB.lit _ _ _ _ _ (by first | exact HO.out | (simp; exact HO.out)) rfl) HBD.out ?_; intro v1 w1 A1 A2 A3)
      go_ret
      refine ⟨v1, rfl, ?_, (H3.out.alloc _).trans A2.out (fun k hk hS => by rcases H4.out k hS with h1 | h1; exact h1; omega), H4.out.trans A3.out (by simp; have := H3.out.size; omega)⟩
      rw [← H1.out, varint_small (by omega)]
      exact A1

set_option maxRecDepth 100000 in
set_option maxHeartbeats 1000000 in
theorem uint_ref (y : Value) (ys : List UInt8) (x : Int) (a : Nat) (hx : x = a) (ha : a < 18446744073709551616) (w : World) (hy : RdB w y ys) (hl : ys.length ≤ 140737488300000) :
    Calls Try.prog 29 #[y, .int .u64 x] w (RetB w No (ys ++ varint a)) := by
  subst hx
  obtain ⟨A, c, rfl, hc⟩ := hy.slice
  have HY := hid hy
  have HL := hid (show ([] : List UInt8).length + ys.length ≤ 140737488355328 by simp; omega)
  have HL2 := hid (show ([] ++ ys).length + (varint a).length ≤ 140737488355328 by have := varint_len64 ha; simp; omega)
  have HA := hid ha
  clear hy hc hl ha
  go_enter Try.func29, Try.ntmps29
  go_wp2_with (first
    | (at_builtin; refine wpl_appB _ rfl (.tmp 6) (.tmp 7) _ rfl 5 Try.underlying24 infoU8 _ [] rfl (OwnB.nil _ _) _ _ rfl HY.out HL.out ?_; intro v1 w1 A1 A2 A3)
    | (go_at_call 30; refine (varint_ref a HA.out _).mono ?_; rintro e w2 ⟨v2, rfl, B1', B2', B3'⟩; have B1 := hid B1'; have B2 := hid B2'; have B3 := hid B3'; clear B1' B2' B3')
    | (at_builtin; refine wpl_appB _ rfl (.tmp 9) (.tmp 11) _ rfl 5 Try.underlying24 infoU8 _ _ rfl (A1.out.keep B2.out (fun k _ => not_no k)) _ _ rfl B1.out.rd HL2.out ?_; intro v3 w3 C1 C2 C3))
  go_ret
  refine ⟨v3, rfl, by simpa [Hid] using C1, ?_, fun k hk => ?_⟩
  · have h1 : Fr No w w1 := A2.out.mono (fun k hk hS => absurd hS Of_none)
    exact (h1.trans B2.out (fun k hk h => h)).trans C2.out (fun k hk hS => by rcases A3.out k hS with h | h; exact absurd h Of_none; omega)
  · rcases C3.out k hk with h | h
    · rcases A3.out k h with h' | h'
      · exact absurd h' Of_none
      · exact .inr h'
    · have := B2.out.size; have := A2.out.size; exact .inr (by omega)

set_option maxRecDepth 100000 in
set_option maxHeartbeats 1000000 in
theorem int_ref (y : Value) (ys : List UInt8) (m : Int) (h1 : -9223372036854775808 ≤ m) (h2 : m ≤ 9223372036854775807) (w : World) (hy : RdB w y ys) (hl : ys.length ≤ 140737488300000) :
    Calls Try.prog 23 #[y, .int .i64 m] w (RetB w No (ys ++ varint (zz m))) := by
  have HY := hid hy
  have HL := hid hl
  have HZ := hid (zz_lt h1 h2)
  by_cases c : m < 0
  · have HE : Hid (∀ X : Int, X = 2 * (-(m + 1)) + 1 → X = (zz m : Int)) := by
      intro X hX; subst hX; unfold zz; rw [if_neg (by omega)]; omega
    clear hy hl
    go_enter Try.func23, Try.ntmps23
    go_wp2_with (go_at_call 29; refine (uint_ref y ys _ (zz m) (HE.out _ (by omega)) HZ.out _ HY.out HL.out).mono ?_; rintro e w1 ⟨v1, rfl, A1, A2, A3⟩)
    go_ret
    exact ⟨v1, rfl, A1, A2, A3⟩
  · have HE : Hid (∀ X : Int, X = 2 * m → X = (zz m : Int)) := by
      intro X hX; subst hX; unfold zz; rw [if_pos (by omega)]; omega
    have hge : 0 ≤ m := by omega
    clear hy hl
    go_enter Try.func23, Try.ntmps23
    go_wp2_with (go_at_call 29; refine (uint_ref y ys _ (zz m) (HE.out _ (by omega)) HZ.out _ HY.out HL.out).mono ?_; rintro e w1 ⟨v1, rfl, A1, A2, A3⟩)
    go_ret
    exact ⟨v1, rfl, A1, A2, A3⟩

set_option maxRecDepth 100000 in
set_option maxHeartbeats 1000000 in
theorem wrong_c (y : Value) (ys : List UInt8) (E : Int) (e : Nat) (hE : E = e) (he : e < 100) (w : World) (hy : RdB w y ys) (hl : ys.length ≤ 140737488300000) (hq : getU ys 0 = (0, 0, e)) :
    Calls Try.prog 24 #[.int .i64 E, y] w fun en w' => en = .returned (.bool true) ∧ w' = w := by
  subst hE
  have HY := hid hy
  have HL := hid (show ys.length ≤ 140737488355328 by omega)
  have HQ := hid hq
  have HU := hid (show unzz 0 = 0 from rfl)
  clear hy hl hq
  go_enter Try.func24, Try.ntmps24
  go_wp2_with (first
    | (go_at_call 13; refine (getUint_c y ys 0 _ HY.out HL.out _ HQ.out).mono ?_; rintro e w1 ⟨rfl, rfl⟩)
    | (go_at_call 18; refine (getInt_c y ys 0 _ HY.out HL.out _ HQ.out).mono ?_; rintro e w1 ⟨h1, rfl⟩; rw [HU.out] at h1; subst h1))
  go_ret
  exact ⟨rfl, rfl⟩


/-- a slice of bytes that came in -/
theorem rdb_of_row {w : World} {a : Option Addr} {len cap : Nat} {zs : List Int}
    (h : (a = none ∧ len = 0 ∧ cap = 0 ∧ zs = []) ∨ ∃ x, a = some x ∧ len ≤ cap ∧ cap ≤ maxLen ∧ zs.length = cap ∧ (∀ i, i < zs.length → w.cell? (x.add i) = some (.int .u8 (zs.getD i 0))) ∧ ∀ n ∈ zs, (Lit.int .u8 n).wf = true) :
    ∃ ys : List UInt8, ys.length = len ∧ RdB w (.slice a len cap) ys := by
  rcases h with ⟨rfl, rfl, rfl, rfl⟩ | ⟨x, rfl, hl, hm, hz, hcell, hwz⟩
  · exact ⟨[], rfl, RdB.nil w⟩
  · refine ⟨(zs.take len).map (fun z => UInt8.ofNat z.toNat), by simp; omega, ?_⟩
    refine ⟨some x, cap, by rw [List.length_map, List.length_take, Nat.min_eq_left (by omega)], by simp; omega, by simp [bvs], fun hn => ?_⟩
    have hn' : 0 < zs.length := by simp at hn; omega
    obtain ⟨b, off, spot⟩ := x
    have hc := hcell 0 hn'
    have hspot : spot = none := by simpa [Addr.add] using World.cell?_spot hc
    subst hspot
    refine ⟨b, off, rfl, ?_, fun j u hu => ?_⟩
    · have := World.block_lt_of_cell? w _ hc
      rw [add_off] at this
      exact this
    · simp only [bvs, List.map_map, List.getElem?_map, Option.map_eq_some_iff] at hu
      obtain ⟨z, hz1, rfl⟩ := hu
      rw [List.getElem?_take] at hz1
      split at hz1
      · have hj : j < zs.length := by
          rcases Nat.lt_or_ge j zs.length with h | h
          · exact h
          · rw [List.getElem?_eq_none h] at hz1; cases hz1
        have h1 := hcell j hj
        rw [add_off] at h1
        rw [h1]
        have h2 : zs[j] = z := by rw [List.getElem?_eq_getElem hj] at hz1; exact Option.some.inj hz1
        have h3 := hwz z (by rw [← h2]; exact List.getElem_mem hj)
        have h4 : 0 ≤ z ∧ z ≤ 255 := by simpa [Lit.wf, IntKind.min, IntKind.max, IntKind.signed, IntKind.bits] using h3
        rw [List.getD, List.getElem?_eq_getElem hj, h2]
        simp [bv]
        omega
      · cases hz1

/-- true, and nothing that was there is another -/
def RetT (w : World) : Ending → World → Prop := fun en w' => en = .returned (.bool true) ∧ Fr No w w'
end Go.Proofs.Ytdlabicepppfaaa
