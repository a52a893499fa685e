import Derived.Laws.BitsLemmas
import Derived.Laws.Wrap64
import Derived.Laws.Bits64
/-! Varints, sums: plain mathematics. -/
namespace Go.Proofs.Ytfbhcapcnkcfdaa
set_option linter.unusedVariables false

theorem bits_unsigned (k : IntKind) (hs : k.signed = false) (a b : Nat) (ha : a < 2 ^ k.bits) (hb : b < 2 ^ k.bits) :
    bits .and k a b = ((a &&& b : Nat) : Int) ∧ bits .or k a b = ((a ||| b : Nat) : Int) ∧ bits .xor k a b = ((a ^^^ b : Nat) : Int) := by
  have ha' : a % 2 ^ k.bits = a := Nat.mod_eq_of_lt ha
  have hb' : b % 2 ^ k.bits = b := Nat.mod_eq_of_lt hb
  have hw : ∀ n : Nat, n < 2 ^ k.bits → k.wrap (n : Int) = n := by
    intro n hn
    cases k <;> simp [IntKind.signed] at hs <;> simp [IntKind.bits] at hn <;> simp [IntKind.wrap, IntKind.bits, IntKind.signed] <;> omega
  refine ⟨?_, ?_, ?_⟩
  · simp only [bits, BitVec.ofInt_natCast, BitVec.toNat_and, BitVec.toNat_ofNat, ha', hb']
    exact hw _ (Nat.and_lt_two_pow _ hb)
  · simp only [bits, BitVec.ofInt_natCast, BitVec.toNat_or, BitVec.toNat_ofNat, ha', hb']
    exact hw _ (Nat.or_lt_two_pow ha hb)
  · simp only [bits, BitVec.ofInt_natCast, BitVec.toNat_xor, BitVec.toNat_ofNat, ha', hb']
    exact hw _ (Nat.xor_lt_two_pow ha hb)
theorem or128 (x : Nat) (h : x < 256) : x ||| 128 = x % 128 + 128 := by
  have h1 : x % 128 + 128 = 128 ||| (x % 128) := by
    have := Nat.two_pow_add_eq_or_of_lt (i := 7) (b := x % 128) (by omega) 1
    simp at this
    omega
  rw [h1]
  rcases Nat.lt_or_ge x 128 with h2 | h2
  · rw [Nat.mod_eq_of_lt h2, Nat.or_comm]
  · have h3 : x = 128 ||| (x % 128) := by
      have := Nat.two_pow_add_eq_or_of_lt (i := 7) (b := x % 128) (by omega) 1
      simp at this
      omega
    exact (congrArg (fun y => y ||| 128) h3).trans (by show (128 ||| x % 128) ||| 128 = _; rw [Nat.or_comm, ← Nat.or_assoc, Nat.or_self])
theorem u8_or (n : Nat) : Go.bits .or .u8 ((n : Int) % 256) 128 = ((UInt8.ofNat (n % 128 + 128)).toNat : Int) := by
  have h := (bits_unsigned .u8 rfl (n % 256) 128 (by simp [IntKind.bits]; omega) (by simp [IntKind.bits])).2.1
  rw [or128 _ (by omega)] at h
  have e : ((n : Int) % 256) = ((n % 256 : Nat) : Int) := by omega
  rw [e]
  refine h.trans ?_
  simp only [UInt8.toNat_ofNat']
  omega

/-- a varint -/
def varint (n : Nat) : List UInt8 := if h : n < 128 then [UInt8.ofNat n] else UInt8.ofNat (n % 128 + 128) :: varint (n / 128)
termination_by n
decreasing_by omega

theorem varint_small {n : Nat} (h : n < 128) : varint n = [UInt8.ofNat n] := by rw [varint, dif_pos h]
theorem varint_big {n : Nat} (h : 128 ≤ n) : varint n = UInt8.ofNat (n % 128 + 128) :: varint (n / 128) := by rw [varint, dif_neg (by omega)]
theorem varint_len_pos (n : Nat) : 0 < (varint n).length := by
  rcases Nat.lt_or_ge n 128 with h | h
  · rw [varint_small h]; simp
  · rw [varint_big h]; simp
theorem varint_len_le : ∀ (k n : Nat), n < 128 ^ k → 0 < k → (varint n).length ≤ k := by
  intro k
  induction k with
  | zero => intro n _ h; omega
  | succ k ih =>
    intro n hn _
    rcases Nat.lt_or_ge n 128 with h | h
    · rw [varint_small h]; simp
    · rw [varint_big h]
      have hk : 0 < k := by
        rcases Nat.eq_zero_or_pos k with rfl | h0
        · simp at hn; omega
        · exact h0
      have := ih (n / 128) (Nat.div_lt_of_lt_mul (by rw [Nat.pow_succ] at hn; omega)) hk
      simp; omega
theorem varint_len64 {n : Nat} (h : n < 18446744073709551616) : (varint n).length ≤ 10 := varint_len_le 10 n (by omega) (by omega)

/-- a signed number's place among the others -/
def zz (m : Int) : Nat := if 0 ≤ m then (2 * m).toNat else (-2 * m - 1).toNat
theorem zz_lt {m : Int} (h1 : -9223372036854775808 ≤ m) (h2 : m ≤ 9223372036854775807) : zz m < 18446744073709551616 := by unfold zz; split <;> omega
theorem zz_bits (m : Int) (h1 : -9223372036854775808 ≤ m) (h2 : m ≤ 9223372036854775807) :
    Go.bits .xor .u64 (IntKind.u64.wrap ((IntKind.u64.wrap m) * 2)) (IntKind.u64.wrap (m / 9223372036854775808)) = (zz m : Int) := by
  by_cases h : 0 ≤ m
  · have e1 : IntKind.u64.wrap ((IntKind.u64.wrap m) * 2) = ((zz m : Nat) : Int) := by
      unfold zz; rw [if_pos h]; simp [IntKind.wrap, IntKind.bits, IntKind.signed]; omega
    have e2 : IntKind.u64.wrap (m / 9223372036854775808) = ((0 : Nat) : Int) := by
      simp [IntKind.wrap, IntKind.bits, IntKind.signed]; omega
    rw [e1, e2, (bits_unsigned .u64 rfl (zz m) 0 (by simp [IntKind.bits]; exact zz_lt h1 h2) (by simp [IntKind.bits])).2.2]
    simp
  · have e1 : IntKind.u64.wrap ((IntKind.u64.wrap m) * 2) = ((18446744073709551615 - zz m : Nat) : Int) := by
      unfold zz; rw [if_neg h]; simp [IntKind.wrap, IntKind.bits, IntKind.signed]; omega
    have e2 : IntKind.u64.wrap (m / 9223372036854775808) = ((18446744073709551615 : Nat) : Int) := by
      simp [IntKind.wrap, IntKind.bits, IntKind.signed]; omega
    have hz := zz_lt h1 h2
    rw [e1, e2, (bits_unsigned .u64 rfl _ _ (by simp [IntKind.bits]; omega) (by simp [IntKind.bits])).2.2]
    congr 1
    have hx : ∀ (a : Nat), a < 2 ^ 64 → (2 ^ 64 - 1 - a) ^^^ (2 ^ 64 - 1) = a := by
      intro a ha
      apply Nat.eq_of_testBit_eq
      intro i
      rw [Nat.testBit_xor, Nat.testBit_two_pow_sub_one]
      have := Nat.testBit_two_pow_sub_succ ha i
      rw [show 2 ^ 64 - 1 - a = 2 ^ 64 - (a + 1) by omega, this]
      by_cases hi : i < 64
      · simp [hi]
      · simp [hi]
        exact Nat.testBit_lt_two_pow (Nat.lt_of_lt_of_le ha (Nat.pow_le_pow_right (n := 2) (by omega) (show 64 ≤ i by omega)))
    exact hx (zz m) (by omega)

/-- a varint at the begin of bytes: the number, how many bytes, the error -/
def gu : List UInt8 → Nat → Nat → Nat × Nat × Nat
  | [], i, _ => if 10 ≤ i then (0, 0, 10) else (0, 0, 11)
  | x :: r, i, n => if 10 ≤ i then (0, 0, 10) else if (i = 9 ∧ 1 < x.toNat) ∨ (x.toNat = 0 ∧ 0 < i) then (0, 0, 10)
      else if x.toNat < 128 then (n + x.toNat % 128 * 128 ^ i, i + 1, 0) else gu r (i + 1) (n + x.toNat % 128 * 128 ^ i)

theorem gu_cap {l : List UInt8} {i n : Nat} (hi : 10 ≤ i) : gu l i n = (0, 0, 10) := by cases l <;> rw [gu, if_pos hi]
theorem gu_nil {i n : Nat} (hi : i < 10) : gu [] i n = (0, 0, 11) := by rw [gu, if_neg (by omega)]
theorem gu_bad {x : UInt8} {l : List UInt8} {i n : Nat} (hi : i < 10) (h : (i = 9 ∧ 1 < x.toNat) ∨ (x.toNat = 0 ∧ 0 < i)) : gu (x :: l) i n = (0, 0, 10) := by
  rw [gu, if_neg (by omega), if_pos h]
theorem gu_last {x : UInt8} {l : List UInt8} {i n : Nat} (hi : i < 10) (h : ¬ ((i = 9 ∧ 1 < x.toNat) ∨ (x.toNat = 0 ∧ 0 < i))) (h2 : x.toNat < 128) : gu (x :: l) i n = (n + x.toNat % 128 * 128 ^ i, i + 1, 0) := by
  rw [gu, if_neg (by omega), if_neg h, if_pos h2]
theorem gu_more {x : UInt8} {l : List UInt8} {i n : Nat} (hi : i < 10) (h : ¬ ((i = 9 ∧ 1 < x.toNat) ∨ (x.toNat = 0 ∧ 0 < i))) (h2 : 128 ≤ x.toNat) : gu (x :: l) i n = gu l (i + 1) (n + x.toNat % 128 * 128 ^ i) := by
  rw [gu, if_neg (by omega), if_neg h, if_neg (by omega)]

/-- GetUint -/
def getU (xs : List UInt8) (at_ : Int) : Nat × Nat × Nat :=
  if at_ < 0 ∨ (xs.length : Int) < at_ then (0, 0, 2) else
    let r := gu (xs.drop at_.toNat) 0 0
    if r.2.2 = 0 then (r.1, at_.toNat + r.2.1, 0) else r
theorem gu_bit (n x i : Nat) (hn : n < 128 ^ i) (hi : i < 10) (hx : i = 9 → x ≤ 1) (hx2 : x < 256) :
    Go.bits .or .u64 n (((x % 128 * 2 ^ (7 * i) : Nat) : Int)) = ((n + x % 128 * 128 ^ i : Nat) : Int) := by
  have h128 : ∀ j, (128 : Nat) ^ j = 2 ^ (7 * j) := fun j => by rw [Nat.pow_mul]
  have hn' : n < 2 ^ (7 * i) := by rw [← h128]; exact hn
  have hle : 2 ^ (7 * i) ≤ 2 ^ 63 := Nat.pow_le_pow_right (by omega) (by omega)
  have hb : x % 128 * 2 ^ (7 * i) < 2 ^ 64 := by
    by_cases h9 : i = 9
    · subst h9
      have := hx rfl
      have : x % 128 ≤ 1 := by omega
      calc x % 128 * 2 ^ (7 * 9) ≤ 1 * 2 ^ (7 * 9) := Nat.mul_le_mul_right _ this
        _ < 2 ^ 64 := by decide
    · have : 2 ^ (7 * i) ≤ 2 ^ 56 := Nat.pow_le_pow_right (by omega) (by omega)
      calc x % 128 * 2 ^ (7 * i) ≤ 127 * 2 ^ 56 := Nat.mul_le_mul (by omega) this
        _ < 2 ^ 64 := by decide
  rw [(bits_unsigned .u64 rfl n _ (by simp [IntKind.bits]; omega) (by simpa [IntKind.bits] using hb)).2.1, h128]
  congr 1
  rw [Nat.or_comm, Nat.mul_comm, ← Nat.two_pow_add_eq_or_of_lt hn', Nat.add_comm]
theorem gu_val (n i : Nat) (x : UInt8) (E xt : Int) (hE : E = 2 ^ (7 * i)) (hxt : xt = x.toNat) (hn : n < 128 ^ i) (hi : i < 10) (hx : i = 9 → x.toNat ≤ 1) :
    Go.bits .or .u64 n (IntKind.u64.wrap (IntKind.u64.wrap (Go.bits .and .u8 xt 127) * E)) = ((n + x.toNat % 128 * 128 ^ i : Nat) : Int) := by
  subst hxt
  have hx2 := x.toNat_lt
  have h1 : Go.bits .and .u8 (x.toNat : Int) 127 = ((x.toNat % 128 : Nat) : Int) := by
    have := (bits_unsigned .u8 rfl x.toNat 127 (by simpa [IntKind.bits] using hx2) (by simp [IntKind.bits])).1
    rw [show x.toNat &&& 127 = x.toNat % 128 from Nat.and_two_pow_sub_one_eq_mod x.toNat 7] at this
    exact this
  have h2 : IntKind.u64.wrap (((x.toNat % 128 : Nat) : Int)) = ((x.toNat % 128 : Nat) : Int) := by rw [IntKind.wrap_u64]; omega
  have hle : x.toNat % 128 * 2 ^ (7 * i) < 18446744073709551616 := by
    by_cases h9 : i = 9
    · subst h9
      have := hx rfl
      have : x.toNat % 128 ≤ 1 := by omega
      calc x.toNat % 128 * 2 ^ (7 * 9) ≤ 1 * 2 ^ (7 * 9) := Nat.mul_le_mul_right _ this
        _ < _ := by decide
    · have : 2 ^ (7 * i) ≤ 2 ^ 56 := Nat.pow_le_pow_right (by omega) (by omega)
      calc x.toNat % 128 * 2 ^ (7 * i) ≤ 127 * 2 ^ 56 := Nat.mul_le_mul (by omega) this
        _ < _ := by decide
  have h3 : IntKind.u64.wrap (((x.toNat % 128 : Nat) : Int) * E) = ((x.toNat % 128 * 2 ^ (7 * i) : Nat) : Int) := by
    rw [hE, show (((x.toNat % 128 : Nat) : Int) * 2 ^ (7 * i)) = ((x.toNat % 128 * 2 ^ (7 * i) : Nat) : Int) by push_cast; rfl, IntKind.wrap_u64]
    omega
  rw [h1, h2, h3]
  exact gu_bit n x.toNat i hn hi hx hx2
theorem gu_lt (n i x : Nat) (hn : n < 128 ^ i) : n + x % 128 * 128 ^ i < 128 ^ (i + 1) := by
  have : x % 128 ≤ 127 := by omega
  have h := Nat.mul_le_mul_right (128 ^ i) this
  rw [Nat.pow_succ]
  omega

/-! ## the sum -/
def crc1 (c : Nat) : Nat := (c / 2) ^^^ (if c % 2 = 1 then 3988292384 else 0)
def crc8 (c : Nat) : Nat := crc1 (crc1 (crc1 (crc1 (crc1 (crc1 (crc1 (crc1 c)))))))
def crcL (c : Nat) (xs : List UInt8) : Nat := xs.foldl (fun c b => crc8 (c ^^^ b.toNat)) c
def crc (xs : List UInt8) : Nat := 4294967295 - crcL 4294967295 xs
theorem crc1_lt {c : Nat} (h : c < 4294967296) : crc1 c < 4294967296 := by
  unfold crc1
  refine Nat.xor_lt_two_pow (n := 32) (by omega) ?_
  split <;> omega
theorem crc8_lt {c : Nat} (h : c < 4294967296) : crc8 c < 4294967296 := by
  unfold crc8
  repeat (apply crc1_lt)
  exact h
theorem crcx_lt {c : Nat} (h : c < 4294967296) (b : UInt8) : c ^^^ b.toNat < 4294967296 :=
  Nat.xor_lt_two_pow (n := 32) h (by have := b.toNat_lt; omega)
theorem crcL_lt (xs : List UInt8) : ∀ {c : Nat}, c < 4294967296 → crcL c xs < 4294967296 := by
  induction xs with
  | nil => intro c h; exact h
  | cons b xs ih => intro c h; exact ih (crc8_lt (crcx_lt h b))
theorem crcL_take (c : Nat) (xs : List UInt8) (k : Nat) (h : k < xs.length) : crcL c (xs.take (k + 1)) = crc8 (crcL c (xs.take k) ^^^ (xs[k]'h).toNat) := by
  unfold crcL
  rw [List.take_succ_eq_append_getElem h, List.foldl_append]
  rfl
theorem crc_lt (xs : List UInt8) : crc xs < 4294967296 := by unfold crc; omega
theorem crc1_bits (c : Nat) (h : c < 4294967296) (X : Int) (hX : X = IntKind.u32.wrap (-(Go.bits .and .u32 c 1))) :
    Go.bits .xor .u32 ((c : Int) / 2) (Go.bits .and .u32 3988292384 X) = ((crc1 c : Nat) : Int) := by
  subst hX
  have h1 : Go.bits .and .u32 (c : Int) 1 = ((c % 2 : Nat) : Int) := by
    have := (bits_unsigned .u32 rfl c 1 (by simpa [IntKind.bits] using h) (by simp [IntKind.bits])).1
    rw [show c &&& 1 = c % 2 from Nat.and_two_pow_sub_one_eq_mod c 1] at this
    exact this
  rw [h1]
  have hd : ((c : Int) / 2) = ((c / 2 : Nat) : Int) := by omega
  rw [hd]
  unfold crc1
  by_cases hb : c % 2 = 1
  · have h2 : IntKind.u32.wrap (-((c % 2 : Nat) : Int)) = ((4294967295 : Nat) : Int) := by rw [hb]; rfl
    rw [h2, if_pos hb]
    have h3 := (bits_unsigned .u32 rfl 3988292384 4294967295 (by simp [IntKind.bits]) (by simp [IntKind.bits])).1
    have h4 : (3988292384 : Nat) &&& 4294967295 = 3988292384 := by decide
    rw [h4] at h3
    rw [show ((3988292384 : Int)) = ((3988292384 : Nat) : Int) from rfl, h3]
    exact (bits_unsigned .u32 rfl (c / 2) 3988292384 (by simp [IntKind.bits]; omega) (by simp [IntKind.bits])).2.2
  · have hb0 : c % 2 = 0 := by omega
    have h2 : IntKind.u32.wrap (-((c % 2 : Nat) : Int)) = ((0 : Nat) : Int) := by rw [hb0]; rfl
    rw [h2, if_neg hb]
    have h3 := (bits_unsigned .u32 rfl 3988292384 0 (by simp [IntKind.bits]) (by simp [IntKind.bits])).1
    rw [show ((3988292384 : Int)) = ((3988292384 : Nat) : Int) from rfl, h3]
    exact (bits_unsigned .u32 rfl (c / 2) 0 (by simp [IntKind.bits]; omega) (by simp [IntKind.bits])).2.2
theorem xor_u32 (c : Nat) (h : c < 4294967296) (b : UInt8) (X : Int) (hX : X = b.toNat) : Go.bits .xor .u32 (c : Int) X = ((c ^^^ b.toNat : Nat) : Int) := by
  subst hX
  exact (bits_unsigned .u32 rfl c b.toNat (by simpa [IntKind.bits] using h) (by have := b.toNat_lt; simp [IntKind.bits]; omega)).2.2
/-- k of the eight steps -/
def crcN : Nat → Nat → Nat
  | 0, c => c
  | k + 1, c => crc1 (crcN k c)
theorem crcN_lt (k : Nat) {c : Nat} (h : c < 4294967296) : crcN k c < 4294967296 := by
  induction k with
  | zero => exact h
  | succ k ih => exact crc1_lt ih
theorem xor_ones (n c : Nat) (h : c < 2 ^ n) : (2 ^ n - 1) ^^^ c = 2 ^ n - 1 - c := by
  apply Nat.eq_of_testBit_eq
  intro i
  rw [Nat.testBit_xor, Nat.testBit_two_pow_sub_one, show 2 ^ n - 1 - c = 2 ^ n - (c + 1) by omega, Nat.testBit_two_pow_sub_succ h i]
  by_cases hi : i < n
  · simp [hi]
  · simp [hi]
    exact Nat.testBit_lt_two_pow (Nat.lt_of_lt_of_le h (Nat.pow_le_pow_right (n := 2) (by omega) (show n ≤ i by omega)))
theorem not_u32 (c : Nat) (h : c < 4294967296) : Go.bits .xor .u32 IntKind.u32.max (c : Int) = ((4294967295 - c : Nat) : Int) := by
  have := (bits_unsigned .u32 rfl 4294967295 c (by simp [IntKind.bits]) (by simpa [IntKind.bits] using h)).2.2
  rw [xor_ones 32 c (by omega)] at this
  exact this
/-- a number in four bytes, the highest first -/
def four (n : Nat) : List UInt8 := [UInt8.ofNat (n / 16777216), UInt8.ofNat (n / 65536), UInt8.ofNat (n / 256), UInt8.ofNat n]
/-- of four bytes -/
def num4 (xs : List UInt8) : Nat := (xs.getD 0 0).toNat * 16777216 + (xs.getD 1 0).toNat * 65536 + (xs.getD 2 0).toNat * 256 + (xs.getD 3 0).toNat
theorem num4_four (n : Nat) (h : n < 4294967296) (r : List UInt8) : num4 (four n ++ r) = n := by
  simp [num4, four]
  omega
theorem num4_lt (xs : List UInt8) : num4 xs < 4294967296 := by
  unfold num4
  have h0 := (xs.getD 0 0).toNat_lt
  have h1 := (xs.getD 1 0).toNat_lt
  have h2 := (xs.getD 2 0).toNat_lt
  have h3 := (xs.getD 3 0).toNat_lt
  omega
theorem shift_u32 (b k : Nat) (hb : b < 256) (hk : k = 1 ∨ k = 256 ∨ k = 65536 ∨ k = 16777216) : IntKind.u32.wrap ((b : Int) * k) = ((b * k : Nat) : Int) := by
  rw [IntKind.wrap_u32]
  rcases hk with rfl | rfl | rfl | rfl <;> omega
theorem lt32 {x : Nat} (h : x < 4294967296) : x < 2 ^ IntKind.u32.bits := h
theorem num4_bits (a b c d : Nat) (ha : a < 256) (hb : b < 256) (hc : c < 256) (hd : d < 256) :
    Go.bits .or .u32 (Go.bits .or .u32 (Go.bits .or .u32 ((a * 16777216 : Nat) : Int) ((b * 65536 : Nat) : Int)) ((c * 256 : Nat) : Int)) (d : Int) = ((a * 16777216 + b * 65536 + c * 256 + d : Nat) : Int) := by
  have o (i x y : Nat) (hy : y < 2 ^ i) : x * 2 ^ i ||| y = x * 2 ^ i + y := by
    rw [Nat.mul_comm, Nat.two_pow_add_eq_or_of_lt hy]
  have h1 : Go.bits .or .u32 ((a * 16777216 : Nat) : Int) ((b * 65536 : Nat) : Int) = ((a * 16777216 + b * 65536 : Nat) : Int) := by
    rw [(bits_unsigned .u32 rfl (a * 16777216) (b * 65536) (lt32 (by omega)) (lt32 (by omega))).2.1]
    congr 1
    exact o 24 a (b * 65536) (by omega)
  have h2 : Go.bits .or .u32 ((a * 16777216 + b * 65536 : Nat) : Int) ((c * 256 : Nat) : Int) = ((a * 16777216 + b * 65536 + c * 256 : Nat) : Int) := by
    rw [(bits_unsigned .u32 rfl (a * 16777216 + b * 65536) (c * 256) (lt32 (by omega)) (lt32 (by omega))).2.1]
    congr 1
    have := o 16 (a * 256 + b) (c * 256) (by omega)
    rw [show (a * 256 + b) * 2 ^ 16 = a * 16777216 + b * 65536 by omega] at this
    exact this
  rw [h1, h2, (bits_unsigned .u32 rfl (a * 16777216 + b * 65536 + c * 256) d (lt32 (by omega)) (lt32 (by omega))).2.1]
  congr 1
  have := o 8 (a * 65536 + b * 256 + c) d (by omega)
  rw [show (a * 65536 + b * 256 + c) * 2 ^ 8 = a * 16777216 + b * 65536 + c * 256 by omega] at this
  exact this

/-- the signed number of a place -/
def unzz (n : Nat) : Int := if n % 2 = 0 then (n / 2 : Nat) else -((n / 2 : Nat) : Int) - 1
theorem unzz_zz (m : Int) : unzz (zz m) = m := by
  unfold unzz zz
  split <;> split <;> omega
theorem gu_lt64 (l : List UInt8) : ∀ (i n : Nat), n < 128 ^ i → i ≤ 10 → (gu l i n).1 < 18446744073709551616 := by
  induction l with
  | nil => intro i n _ _; rw [gu]; split <;> simp
  | cons x l ih =>
    intro i n hn hi
    rw [gu]
    by_cases c1 : 10 ≤ i
    · rw [if_pos c1]; simp
    · rw [if_neg c1]
      by_cases c2 : (i = 9 ∧ 1 < x.toNat) ∨ (x.toNat = 0 ∧ 0 < i)
      · rw [if_pos c2]; simp
      · rw [if_neg c2]
        by_cases c3 : x.toNat < 128
        · rw [if_pos c3]
          show n + x.toNat % 128 * 128 ^ i < _
          by_cases h9 : i = 9
          · subst h9
            have h1 : x.toNat ≤ 1 := by omega
            have h2 : x.toNat % 128 ≤ 1 := by omega
            have h3 := Nat.mul_le_mul_right (128 ^ 9) h2
            have h4 : (128 : Nat) ^ 9 = 9223372036854775808 := by decide
            rw [h4] at h3 hn ⊢
            omega
          · have h1 := gu_lt n i x.toNat hn
            have h2 : (128 : Nat) ^ (i + 1) ≤ 128 ^ 9 := Nat.pow_le_pow_right (by omega) (by omega)
            have h4 : (128 : Nat) ^ 9 = 9223372036854775808 := by decide
            omega
        · rw [if_neg c3]
          exact ih (i + 1) _ (gu_lt n i _ hn) (by omega)
theorem getU_lt (xs : List UInt8) (a : Int) : (getU xs a).1 < 18446744073709551616 := by
  unfold getU
  split
  · simp
  · have := gu_lt64 (xs.drop a.toNat) 0 0 (by simp) (by omega)
    simp only
    split
    · exact this
    · exact this
theorem unzz_bits (n : Nat) (hn : n < 18446744073709551616) :
    Go.bits .xor .i64 (IntKind.i64.wrap ((n : Int) / 2)) (IntKind.i64.wrap (-(IntKind.i64.wrap (Go.bits .and .u64 n 1)))) = unzz n := by
  have h1 : Go.bits .and .u64 (n : Int) 1 = ((n % 2 : Nat) : Int) := by
    have := (bits_unsigned .u64 rfl n 1 (by simpa [IntKind.bits] using hn) (by simp [IntKind.bits])).1
    rw [show n &&& 1 = n % 2 from Nat.and_two_pow_sub_one_eq_mod n 1] at this
    exact this
  have h2 : IntKind.i64.wrap ((n : Int) / 2) = ((n / 2 : Nat) : Int) := by rw [IntKind.wrap_i64]; omega
  rw [h1, h2]
  have hlt : n / 2 < 2 ^ 63 := by omega
  unfold unzz
  by_cases h : n % 2 = 0
  · rw [if_pos h, h]
    have h3 : IntKind.i64.wrap (-(IntKind.i64.wrap (((0 : Nat) : Int)))) = 0 := by decide
    rw [h3]
    simp only [bits]
    have h4 : (BitVec.ofInt IntKind.i64.bits ((n / 2 : Nat) : Int) ^^^ BitVec.ofInt IntKind.i64.bits 0).toNat = n / 2 := by
      rw [show BitVec.ofInt IntKind.i64.bits 0 = 0#(IntKind.i64.bits) from rfl, BitVec.xor_zero, BitVec.ofInt_natCast, BitVec.toNat_ofNat]
      exact Nat.mod_eq_of_lt (Nat.lt_trans hlt (by simp [IntKind.bits]))
    rw [h4, IntKind.wrap_i64]
    omega
  · rw [if_neg h, show n % 2 = 1 by omega]
    have h3 : IntKind.i64.wrap (-(IntKind.i64.wrap (((1 : Nat) : Int)))) = -1 := by decide
    rw [h3]
    simp only [bits]
    have h4 : (BitVec.ofInt IntKind.i64.bits ((n / 2 : Nat) : Int) ^^^ BitVec.ofInt IntKind.i64.bits (-1)).toNat = 18446744073709551615 - n / 2 := by
      rw [show BitVec.ofInt IntKind.i64.bits (-1) = BitVec.allOnes IntKind.i64.bits from by decide, BitVec.xor_allOnes, BitVec.toNat_not, BitVec.ofInt_natCast, BitVec.toNat_ofNat]
      have : n / 2 % 2 ^ IntKind.i64.bits = n / 2 := Nat.mod_eq_of_lt (Nat.lt_trans hlt (by simp [IntKind.bits]))
      rw [this]
      rfl
    rw [h4, IntKind.wrap_i64]
    omega

theorem gu_count (l : List UInt8) : ∀ (i n : Nat), (gu l i n).2.1 ≤ i + l.length := by
  induction l with
  | nil => intro i n; rw [gu]; split <;> simp
  | cons x l ih =>
    intro i n
    rw [gu]
    split
    · simp
    · split
      · simp
      · split
        · show i + 1 ≤ i + (x :: l).length; simp
        · have := ih (i + 1) (n + x.toNat % 128 * 128 ^ i)
          simp; omega
theorem getU_next (xs : List UInt8) (a : Int) : (getU xs a).2.1 ≤ xs.length := by
  unfold getU
  split
  · simp
  · have := gu_count (xs.drop a.toNat) 0 0
    simp only [List.length_drop] at this
    simp only
    split
    · show a.toNat + _ ≤ _
      omega
    · omega

/-! ## lengths -/
/-- how many groups of seven bits a number has; none at 0 -/
def groups (x : Nat) : Nat := if x = 0 then 0 else (varint x).length
theorem groups_step {x : Nat} (h : 0 < x) : groups x = 1 + groups (x / 128) := by
  unfold groups
  rw [if_neg (by omega)]
  rcases Nat.lt_or_ge x 128 with h1 | h1
  · rw [varint_small h1, if_pos (by omega)]; rfl
  · rw [varint_big h1, if_neg (by omega)]; simp; omega
theorem groups_varint (n : Nat) : (varint n).length = 1 + groups (n / 128) := by
  rcases Nat.eq_zero_or_pos n with rfl | h
  · rw [varint_small (by omega)]; simp [groups]
  · rw [← groups_step h, groups, if_neg (by omega)]
theorem groups_le_self (n : Nat) : groups n ≤ n := by
  induction n using Nat.strongRecOn with
  | _ n ih =>
    rcases Nat.eq_zero_or_pos n with rfl | h
    · exact Nat.le_refl _
    · rw [groups_step h]
      have := ih (n / 128) (by omega)
      omega
theorem varint_mono (a : Nat) : ∀ b, a ≤ b → (varint a).length ≤ (varint b).length := by
  induction a using Nat.strongRecOn with
  | _ a ih =>
    intro b hb
    rcases Nat.lt_or_ge a 128 with h1 | h1
    · rw [varint_small h1]; exact varint_len_pos b
    · rw [varint_big h1, varint_big (n := b) (by omega)]
      have := ih (a / 128) (by omega) (b / 128) (by omega)
      simp; omega
theorem varint_pair (m : Nat) : (varint (2 * m)).length = (varint (2 * m + 1)).length := by
  rcases Nat.lt_or_ge (2 * m) 128 with h1 | h1
  · rw [varint_small h1, varint_small (n := 2 * m + 1) (by omega)]; rfl
  · rw [varint_big h1, varint_big (n := 2 * m + 1) (by omega), show (2 * m + 1) / 128 = (2 * m) / 128 by omega]; rfl
theorem varint_turn (m : Int) : (varint (zz m)).length = (varint (zz (-1 - m))).length := by
  by_cases h : 0 ≤ m
  · have h1 : zz m = 2 * m.toNat := by unfold zz; rw [if_pos h]; omega
    have h2 : zz (-1 - m) = 2 * m.toNat + 1 := by unfold zz; rw [if_neg (by omega)]; omega
    rw [h1, h2]; exact varint_pair _
  · have h1 : zz m = 2 * (-1 - m).toNat + 1 := by unfold zz; rw [if_neg h]; omega
    have h2 : zz (-1 - m) = 2 * (-1 - m).toNat := by unfold zz; rw [if_pos (by omega)]; omega
    rw [h1, h2]; exact (varint_pair _).symm

/-! ## what was put is got -/
theorem ofNat_low {n : Nat} (h : n < 128) : (UInt8.ofNat n).toNat = n := by simp; omega
theorem ofNat_high (n : Nat) : (UInt8.ofNat (n % 128 + 128)).toNat = n % 128 + 128 := by simp; omega
theorem gu_varint (m : Nat) : ∀ (i acc : Nat) (r : List UInt8), i ≤ 9 → m < 2 ^ (64 - 7 * i) → (0 < i → 0 < m) → gu (varint m ++ r) i acc = (acc + m * 128 ^ i, i + (varint m).length, 0) := by
  induction m using Nat.strongRecOn with
  | _ m ih =>
    intro i acc r hi hm h0
    rcases Nat.lt_or_ge m 128 with h1 | h1
    · rw [varint_small h1]
      show gu (UInt8.ofNat m :: r) i acc = _
      have h9 : i = 9 → m ≤ 1 := by intro e; subst e; simp at hm; omega
      rw [gu_last (by omega) (by rw [ofNat_low h1]; omega) (by rw [ofNat_low h1]; omega), ofNat_low h1, Nat.mod_eq_of_lt h1]
      rfl
    · have hi8 : i ≤ 8 := by
        rcases Nat.lt_or_ge i 9 with h | h
        · omega
        · have : i = 9 := by omega
          subst this
          simp at hm; omega
      rw [varint_big h1]
      show gu (UInt8.ofNat (m % 128 + 128) :: (varint (m / 128) ++ r)) i acc = _
      rw [gu_more (by omega) (by rw [ofNat_high]; omega) (by rw [ofNat_high]; omega), ofNat_high]
      have hm2 : m / 128 < 2 ^ (64 - 7 * (i + 1)) := by
        apply Nat.div_lt_of_lt_mul
        have : 128 * 2 ^ (64 - 7 * (i + 1)) = 2 ^ (64 - 7 * i) := by
          rw [show 64 - 7 * i = 7 + (64 - 7 * (i + 1)) by omega, Nat.pow_add]
        omega
      rw [ih (m / 128) (by omega) (i + 1) _ r (by omega) hm2 (fun _ => by omega)]
      refine Prod.ext ?_ (Prod.ext ?_ rfl)
      · show acc + (m % 128 + 128) % 128 * 128 ^ i + m / 128 * 128 ^ (i + 1) = acc + m * 128 ^ i
        have e : (m % 128 + 128) % 128 = m % 128 := by omega
        have e2 : m * 128 ^ i = (m % 128) * 128 ^ i + (m / 128) * (128 * 128 ^ i) := by
          rw [← Nat.mul_assoc, ← Nat.add_mul]
          congr 1
          omega
        rw [e, e2, Nat.pow_succ, Nat.mul_comm (128 ^ i) 128]
        omega
      · show i + 1 + (varint (m / 128)).length = i + (UInt8.ofNat (m % 128 + 128) :: varint (m / 128)).length
        simp; omega
theorem gu_cut (m : Nat) : ∀ (i acc j : Nat), i ≤ 9 → m < 2 ^ (64 - 7 * i) → j < (varint m).length → gu ((varint m).take j) i acc = (0, 0, 11) := by
  induction m using Nat.strongRecOn with
  | _ m ih =>
    intro i acc j hi hm hj
    rcases Nat.lt_or_ge m 128 with h1 | h1
    · rw [varint_small h1] at hj ⊢
      have : j = 0 := by simp at hj; omega
      subst this
      exact gu_nil (by omega)
    · have hi8 : i ≤ 8 := by
        rcases Nat.lt_or_ge i 9 with h | h
        · omega
        · have : i = 9 := by omega
          subst this
          simp at hm; omega
      rw [varint_big h1] at hj ⊢
      rcases Nat.eq_zero_or_pos j with rfl | hp
      · exact gu_nil (by omega)
      · obtain ⟨j, rfl⟩ : ∃ k, j = k + 1 := ⟨j - 1, by omega⟩
        rw [List.take_succ_cons, gu_more (by omega) (by rw [ofNat_high]; omega) (by rw [ofNat_high]; omega)]
        have hm2 : m / 128 < 2 ^ (64 - 7 * (i + 1)) := by
          apply Nat.div_lt_of_lt_mul
          have : 128 * 2 ^ (64 - 7 * (i + 1)) = 2 ^ (64 - 7 * i) := by
            rw [show 64 - 7 * i = 7 + (64 - 7 * (i + 1)) by omega, Nat.pow_add]
          omega
        exact ih (m / 128) (by omega) (i + 1) _ j (by omega) hm2 (by simp at hj; omega)
theorem getU_at (pre r : List UInt8) (n : Nat) (hn : n < 18446744073709551616) : getU (pre ++ (varint n ++ r)) pre.length = (n, pre.length + (varint n).length, 0) := by
  unfold getU
  rw [if_neg (by simp; omega)]
  have h : (pre ++ (varint n ++ r)).drop (pre.length : Int).toNat = varint n ++ r := by simp
  rw [h, gu_varint n 0 0 r (by omega) (by simpa using hn) (by omega)]
  simp
theorem getU_0 (r : List UInt8) (n : Nat) (hn : n < 18446744073709551616) : getU (varint n ++ r) 0 = (n, (varint n).length, 0) := by
  have := getU_at [] r n hn
  simpa using this
theorem getU_cut (n j : Nat) (hn : n < 18446744073709551616) (hj : j < (varint n).length) : getU ((varint n).take j) 0 = (0, 0, 11) := by
  have h := gu_cut n 0 0 j (by omega) (by simpa using hn) hj
  unfold getU
  rw [if_neg (by simp)]
  have e : ((varint n).take j).drop (0 : Int).toNat = (varint n).take j := by simp
  rw [e, h]
  rfl
theorem varint_inj {n k : Nat} (hn : n < 18446744073709551616) (hk : k < 18446744073709551616) (h : varint n = varint k) : n = k := by
  have h1 := getU_0 [] n hn
  have h2 := getU_0 [] k hk
  rw [h] at h1
  exact congrArg Prod.fst (h1.symm.trans h2)

/-! ## sums of lists held against each other -/
theorem crc1_xor (p q : Nat) : crc1 (p ^^^ q) = crc1 p ^^^ crc1 q := by
  unfold crc1
  have h1 : (p ^^^ q) / 2 = p / 2 ^^^ q / 2 := by
    have := Nat.shiftRight_xor_distrib (a := p) (b := q) (i := 1)
    simpa [Nat.shiftRight_eq_div_pow] using this
  have h2 : (p ^^^ q) % 2 = p % 2 ^^^ q % 2 := by
    have := Nat.xor_mod_two_pow (a := p) (b := q) (n := 1)
    simpa using this
  rw [h1, h2]
  have hx : ∀ a b c d : Nat, a ^^^ c ^^^ (b ^^^ d) = a ^^^ b ^^^ (c ^^^ d) := by
    intro a b c d
    rw [Nat.xor_assoc, Nat.xor_assoc, ← Nat.xor_assoc c, Nat.xor_comm c b, Nat.xor_assoc b]
  rcases Nat.mod_two_eq_zero_or_one p with hp | hp <;> rcases Nat.mod_two_eq_zero_or_one q with hq | hq <;> rw [hp, hq] <;> simp
  · rw [Nat.xor_assoc]
  · rw [Nat.xor_assoc, Nat.xor_comm (q / 2), ← Nat.xor_assoc]
  · rw [hx, Nat.xor_self, Nat.xor_zero]
theorem crc8_xor (p q : Nat) : crc8 (p ^^^ q) = crc8 p ^^^ crc8 q := by unfold crc8; simp only [crc1_xor]
/-- byte by byte -/
def xor3 : List UInt8 → List UInt8 → List UInt8 → List UInt8
  | a :: as, b :: bs, c :: cs => (a ^^^ b ^^^ c) :: xor3 as bs cs
  | _, _, _ => []
theorem xor3_length : ∀ (a b c : List UInt8), a.length = b.length → a.length = c.length → (xor3 a b c).length = a.length
  | [], [], [], _, _ => rfl
  | a :: as, b :: bs, c :: cs, h1, h2 => by simp [xor3, xor3_length as bs cs (by simpa using h1) (by simpa using h2)]
theorem xor3_get : ∀ (a b c : List UInt8) (i : Nat) (x y z : UInt8), a[i]? = some x → b[i]? = some y → c[i]? = some z → (xor3 a b c)[i]? = some (x ^^^ y ^^^ z)
  | a :: as, b :: bs, c :: cs, 0, x, y, z, h1, h2, h3 => by simp at h1 h2 h3; subst h1 h2 h3; rfl
  | a :: as, b :: bs, c :: cs, i + 1, x, y, z, h1, h2, h3 => by
    simp at h1 h2 h3
    simpa [xor3] using xor3_get as bs cs i x y z h1 h2 h3
theorem xor_six (a b c d e f : Nat) : a ^^^ b ^^^ c ^^^ (d ^^^ e ^^^ f) = (a ^^^ d) ^^^ (b ^^^ e) ^^^ (c ^^^ f) := by
  apply Nat.eq_of_testBit_eq
  intro i
  simp only [Nat.testBit_xor]
  cases a.testBit i <;> cases b.testBit i <;> cases c.testBit i <;> cases d.testBit i <;> cases e.testBit i <;> cases f.testBit i <;> rfl
theorem crcL_xor3 : ∀ (a b c : List UInt8) (p q r : Nat), a.length = b.length → a.length = c.length → crcL (p ^^^ q ^^^ r) (xor3 a b c) = crcL p a ^^^ crcL q b ^^^ crcL r c
  | [], [], [], p, q, r, _, _ => rfl
  | a :: as, b :: bs, c :: cs, p, q, r, h1, h2 => by
    have ih := crcL_xor3 as bs cs (crc8 (p ^^^ a.toNat)) (crc8 (q ^^^ b.toNat)) (crc8 (r ^^^ c.toNat)) (by simpa using h1) (by simpa using h2)
    show crcL (crc8 (p ^^^ q ^^^ r ^^^ (a ^^^ b ^^^ c).toNat)) (xor3 as bs cs) = crcL (crc8 (p ^^^ a.toNat)) as ^^^ crcL (crc8 (q ^^^ b.toNat)) bs ^^^ crcL (crc8 (r ^^^ c.toNat)) cs
    rw [← ih, ← crc8_xor, ← crc8_xor, UInt8.toNat_xor, UInt8.toNat_xor, xor_six]
theorem crc_ones (xs : List UInt8) : crc xs = 4294967295 ^^^ crcL 4294967295 xs := by
  unfold crc
  exact (xor_ones 32 _ (crcL_lt xs (by omega))).symm
theorem crc_xor3 (a b c : List UInt8) (h1 : a.length = b.length) (h2 : a.length = c.length) : crc (xor3 a b c) = crc a ^^^ crc b ^^^ crc c := by
  have h := crcL_xor3 a b c 4294967295 4294967295 4294967295 h1 h2
  have e : (4294967295 : Nat) ^^^ 4294967295 ^^^ 4294967295 = 4294967295 := by rw [Nat.xor_self, Nat.zero_xor]
  rw [e] at h
  rw [crc_ones, crc_ones a, crc_ones b, crc_ones c, h]
  apply Nat.eq_of_testBit_eq
  intro i
  simp only [Nat.testBit_xor]
  cases (4294967295 : Nat).testBit i <;> cases (crcL 4294967295 a).testBit i <;> cases (crcL 4294967295 b).testBit i <;> cases (crcL 4294967295 c).testBit i <;> rfl
theorem xor_u8 (a b : UInt8) : Go.bits .xor .u8 (a.toNat : Int) (b.toNat : Int) = ((a ^^^ b).toNat : Int) := by
  have ha := a.toNat_lt
  have hb := b.toNat_lt
  rw [(bits_unsigned .u8 rfl a.toNat b.toNat (by simpa [IntKind.bits] using ha) (by simpa [IntKind.bits] using hb)).2.2, UInt8.toNat_xor]
theorem xor_u32n (a b : Nat) (ha : a < 4294967296) (hb : b < 4294967296) : Go.bits .xor .u32 (a : Int) (b : Int) = ((a ^^^ b : Nat) : Int) :=
  (bits_unsigned .u32 rfl a b (lt32 ha) (lt32 hb)).2.2

/-! ## bursts -/
def crc8N : Nat → Nat → Nat
  | 0, c => c
  | k + 1, c => crc8N k (crc8 c)
def valOf : List UInt8 → Nat
  | [] => 0
  | t :: ts => t.toNat ^^^ (256 * valOf ts)
theorem crc1_double (y : Nat) : crc1 (2 * y) = y := by
  unfold crc1
  rw [if_neg (by omega)]
  simp
theorem crc8_shift (y : Nat) : crc8 (256 * y) = y := by
  unfold crc8
  rw [show 256 * y = 2 * (2 * (2 * (2 * (2 * (2 * (2 * (2 * y))))))) by omega]
  simp only [crc1_double]
theorem crcL_val : ∀ (ts : List UInt8) (d : Nat), crcL d ts = crc8N ts.length (d ^^^ valOf ts)
  | [], d => by simp [crcL, crc8N, valOf]
  | t :: ts, d => by
    show crcL (crc8 (d ^^^ t.toNat)) ts = crc8N ts.length (crc8 (d ^^^ (t.toNat ^^^ (256 * valOf ts))))
    rw [crcL_val ts, ← Nat.xor_assoc, crc8_xor (d ^^^ t.toNat), crc8_shift]
theorem xor_zero_eq {a b : Nat} (h : a ^^^ b = 0) : a = b := by
  have := congrArg (fun x => x ^^^ b) h
  simpa [Nat.xor_assoc] using this
theorem crc1_zero {x : Nat} (hx : x < 4294967296) (h : crc1 x = 0) : x = 0 := by
  unfold crc1 at h
  have h2 := xor_zero_eq h
  split at h2 <;> omega
theorem crc8_zero {x : Nat} (hx : x < 4294967296) (h : crc8 x = 0) : x = 0 := by
  unfold crc8 at h
  have l (y : Nat) (hy : y < 4294967296) := crc1_lt hy
  have e1 := crc1_lt hx
  have e2 := crc1_lt e1
  have e3 := crc1_lt e2
  have e4 := crc1_lt e3
  have e5 := crc1_lt e4
  have e6 := crc1_lt e5
  have e7 := crc1_lt e6
  exact crc1_zero hx (crc1_zero e1 (crc1_zero e2 (crc1_zero e3 (crc1_zero e4 (crc1_zero e5 (crc1_zero e6 (crc1_zero e7 h)))))))
theorem crc8N_zero : ∀ (k : Nat) {x : Nat}, x < 4294967296 → crc8N k x = 0 → x = 0
  | 0, _, _, h => h
  | k + 1, _, hx, h => crc8_zero hx (crc8N_zero k (crc8_lt hx) h)
theorem valOf_lt : ∀ (ts : List UInt8), valOf ts < 256 ^ ts.length
  | [] => by simp [valOf]
  | t :: ts => by
    have h := valOf_lt ts
    have ht := t.toNat_lt
    show t.toNat ^^^ (256 * valOf ts) < 256 ^ (ts.length + 1)
    have e : (256 : Nat) ^ (ts.length + 1) = 2 ^ (8 * (ts.length + 1)) := by rw [Nat.pow_mul]
    rw [e]
    refine Nat.xor_lt_two_pow (Nat.lt_of_lt_of_le ht (Nat.pow_le_pow_right (by omega) (by omega))) ?_
    rw [← e, Nat.pow_succ]
    omega
theorem valOf_zero : ∀ (ts : List UInt8), valOf ts = 0 → ∀ t ∈ ts, t = 0
  | [], _, t, ht => by cases ht
  | t :: ts, h, u, hu => by
    have h2 := xor_zero_eq (show t.toNat ^^^ (256 * valOf ts) = 0 from h)
    have ht := t.toNat_lt
    have hv : valOf ts = 0 := by omega
    rcases List.mem_cons.1 hu with rfl | h3
    · exact UInt8.toNat_inj.1 (by simp; omega)
    · exact valOf_zero ts hv u h3
theorem crc8_inj {a b : Nat} (ha : a < 4294967296) (hb : b < 4294967296) (h : crc8 a = crc8 b) : a = b := by
  have : crc8 (a ^^^ b) = 0 := by rw [crc8_xor, h, Nat.xor_self]
  exact xor_zero_eq (crc8_zero (Nat.xor_lt_two_pow (n := 32) ha hb) this)
theorem xor_right_inj {a b c : Nat} (h : a ^^^ c = b ^^^ c) : a = b := by
  have := congrArg (fun x => x ^^^ c) h
  simpa [Nat.xor_assoc] using this
theorem crcL_inj : ∀ (r : List UInt8) {a b : Nat}, a < 4294967296 → b < 4294967296 → crcL a r = crcL b r → a = b
  | [], _, _, _, _, h => h
  | x :: r, _, _, ha, hb, h => xor_right_inj (crc8_inj (crcx_lt ha x) (crcx_lt hb x) (crcL_inj r (crc8_lt (crcx_lt ha x)) (crc8_lt (crcx_lt hb x)) h))
/-- bytes with others held against them -/
def xor2 : List UInt8 → List UInt8 → List UInt8
  | a :: as, t :: ts => (a ^^^ t) :: xor2 as ts
  | _, _ => []
theorem crcL_xor2 : ∀ (q t : List UInt8) (c d : Nat), q.length = t.length → crcL (c ^^^ d) (xor2 q t) = crcL c q ^^^ crcL d t
  | [], [], _, _, _ => rfl
  | q :: qs, t :: ts, c, d, h => by
    have ih := crcL_xor2 qs ts (crc8 (c ^^^ q.toNat)) (crc8 (d ^^^ t.toNat)) (by simpa using h)
    show crcL (crc8 (c ^^^ d ^^^ (q ^^^ t).toNat)) (xor2 qs ts) = crcL (crc8 (c ^^^ q.toNat)) qs ^^^ crcL (crc8 (d ^^^ t.toNat)) ts
    rw [← ih, ← crc8_xor, UInt8.toNat_xor]
    congr 2
    rw [Nat.xor_assoc, Nat.xor_assoc, ← Nat.xor_assoc d, Nat.xor_comm d q.toNat, Nat.xor_assoc]
theorem crcL_append (c : Nat) (p q : List UInt8) : crcL c (p ++ q) = crcL (crcL c p) q := by simp [crcL]
/-- up to four bytes next to each other are others: the sum is another one -/
theorem burst (p q t r : List UInt8) (hq : q.length = t.length) (h4 : t.length ≤ 4) (ht : ∃ x ∈ t, x ≠ 0) : crc (p ++ (xor2 q t ++ r)) ≠ crc (p ++ (q ++ r)) := by
  intro h
  have hc : ∀ xs : List UInt8, crcL 4294967295 xs < 4294967296 := fun xs => crcL_lt xs (by omega)
  have h1 : crcL 4294967295 (p ++ (xor2 q t ++ r)) = crcL 4294967295 (p ++ (q ++ r)) := by
    have a1 := hc (p ++ (xor2 q t ++ r))
    have a2 := hc (p ++ (q ++ r))
    unfold crc at h
    omega
  rw [crcL_append, crcL_append, crcL_append, crcL_append] at h1
  have h2 := crcL_inj r (crcL_lt _ (hc p)) (crcL_lt _ (hc p)) h1
  have h3 := crcL_xor2 q t (crcL 4294967295 p) 0 hq
  rw [Nat.xor_zero, h2] at h3
  have h4' : crcL 0 t = 0 := by
    have := congrArg (fun x => crcL (crcL 4294967295 p) q ^^^ x) h3
    simp only [← Nat.xor_assoc, Nat.xor_self, Nat.zero_xor] at this
    exact this.symm
  rw [crcL_val, Nat.zero_xor] at h4'
  have hv : valOf t < 4294967296 := Nat.lt_of_lt_of_le (valOf_lt t) (Nat.le_trans (Nat.pow_le_pow_right (n := 256) (by omega) h4) (by decide))
  obtain ⟨x, hx, hx0⟩ := ht
  exact hx0 (valOf_zero t (crc8N_zero _ hv h4') x hx)
theorem xor2_length : ∀ (q t : List UInt8), q.length = t.length → (xor2 q t).length = q.length
  | [], [], _ => rfl
  | q :: qs, t :: ts, h => by simp [xor2, xor2_length qs ts (by simpa using h)]
theorem xor2_get : ∀ (q t : List UInt8) (i : Nat) (a b : UInt8), q[i]? = some a → t[i]? = some b → (xor2 q t)[i]? = some (a ^^^ b)
  | q :: qs, t :: ts, 0, a, b, h1, h2 => by simp at h1 h2; subst h1 h2; rfl
  | q :: qs, t :: ts, i + 1, a, b, h1, h2 => by
    simp at h1 h2
    simpa [xor2] using xor2_get qs ts i a b h1 h2
/-- the same, said place by place -/
theorem burst_at (xs ds ts : List UInt8) (at_ m : Nat) (hl : ds.length = xs.length) (hm : m = min 4 (xs.length - at_)) (hat : at_ ≤ xs.length) (ht4 : ts.length = 4)
    (hin : ∀ i x t, i < m → xs[at_ + i]? = some x → ts[i]? = some t → ds[at_ + i]? = some (x ^^^ t)) (hout : ∀ j, (j < at_ ∨ at_ + m ≤ j) → ds[j]? = xs[j]?) (hch : ∃ i t, i < m ∧ ts[i]? = some t ∧ t ≠ 0) :
    crc ds ≠ crc xs := by
  have hm4 : m ≤ 4 := by omega
  have hml : at_ + m ≤ xs.length := by omega
  have lq : ((xs.drop at_).take m).length = m := by simp; omega
  have lt : (ts.take m).length = m := by simp; omega
  have e1 : xs = xs.take at_ ++ ((xs.drop at_).take m ++ xs.drop (at_ + m)) := by
    rw [← List.drop_drop, List.take_append_drop, List.take_append_drop]
  have lx : (xor2 ((xs.drop at_).take m) (ts.take m)).length = m := by rw [xor2_length _ _ (by omega)]; exact lq
  have e2 : ds = xs.take at_ ++ (xor2 ((xs.drop at_).take m) (ts.take m) ++ xs.drop (at_ + m)) := by
    apply List.ext_getElem?
    intro j
    have lp : (xs.take at_).length = at_ := by simp; omega
    by_cases h1 : j < at_
    · rw [hout j (.inl h1), List.getElem?_append_left (by omega), List.getElem?_take, if_pos h1]
    · rw [List.getElem?_append_right (by omega), lp]
      by_cases h2 : j < at_ + m
      · rw [List.getElem?_append_left (by omega)]
        obtain ⟨i, rfl⟩ : ∃ i, j = at_ + i := ⟨j - at_, by omega⟩
        have hi : i < m := by omega
        rw [show at_ + i - at_ = i by omega]
        rw [xor2_get _ _ i (xs[at_ + i]'(by omega)) (ts[i]'(by omega)) (by rw [List.getElem?_take, if_pos hi, List.getElem?_drop]; simp) (by rw [List.getElem?_take, if_pos hi]; simp)]
        exact hin i _ _ hi (by simp) (by simp)
      · rw [List.getElem?_append_right (by omega), lx, List.getElem?_drop, hout j (.inr (by omega))]
        congr 1
        omega
  rw [e2]
  conv => rhs; rw [e1]
  refine burst _ _ _ _ (by omega) (by omega) ?_
  obtain ⟨i, t, hi, hti, h0⟩ := hch
  exact ⟨t, List.mem_of_getElem? (i := i) (by rw [List.getElem?_take, if_pos hi]; exact hti), h0⟩
end Go.Proofs.Ytfbhcapcnkcfdaa
