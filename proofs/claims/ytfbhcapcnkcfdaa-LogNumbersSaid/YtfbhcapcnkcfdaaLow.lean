import Derived.Test.YtfbhcapcnkcfdaaProg
import Derived.Test.YtfbhcapcnkcfdaaBase
/-! The contracts of slices.Clone at bytes, of the statements' own small functions (for every layer but the first). -/
namespace Go.Proofs.Ytfbhcapcnkcfdaa
open Go.RowKit
set_option linter.unusedVariables false

theorem infoU8 : (Try.prog.info? 5).map (fun i => (i.zero, i.size, i.bytes)) = some (some (.int .u8 0), 1, 1) := by kernel_rfl

/-- a row of bytes of the call's own comes back -/
def RetB (w : World) (S : Nat → Prop) (xs : List UInt8) : Ending → World → Prop := fun en w' => ∃ v', en = .returned v' ∧ OwnB 5 w' v' xs ∧ Fr S w w' ∧ Grows w S v'
theorem grows_nil (w : World) : Grows w No (.slice none 0 0) := fun k hk => absurd hk Of_none
/-- a row of bytes and an error come back -/
def RetBE (w : World) (S : Nat → Prop) (r : List UInt8 × Nat) : Ending → World → Prop := fun en w' => ∃ v', en = .returned (.tuple #[v', .int .i64 r.2]) ∧ OwnB 5 w' v' r.1 ∧ Fr S w w' ∧ Grows w S v'

set_option maxRecDepth 100000 in
set_option maxHeartbeats 400000 in
theorem clone_c (y : Value) (ys : List UInt8) (w : World) (hy : RdB w y ys) (hl : ys.length ≤ 140737488355328) :
    Calls Try.prog 56 #[y] w (RetB w No ys) := by
  obtain ⟨A, c, rfl, hc⟩ := hy.slice
  have HY := hid hy
  have HL := hid (show ([] : List UInt8).length + ys.length ≤ 140737488355328 by simpa using hl)
  cases A with
  | none =>
    have h0 : ys = [] := by
      rcases Nat.eq_zero_or_pos ys.length with h | h
      · exact List.eq_nil_of_length_eq_zero h
      · obtain ⟨b, off, hA, _⟩ := hy.at_ h
        cases hA
    clear hy
    have H0 := hid h0
    clear h0 hc hl
    have kn := fun (w : World) => Lib.run_eql_slice_nil (P := Try.prog) w 22 5 none ys.length c 0 0 Try.underlying22
    go_enter Try.func56, Try.ntmps56
    go_wp2
    go_ret
    exact ⟨_, rfl, by rw [H0.out]; exact OwnB.nil _ _, Fr.refl _ _, fun k hk => absurd hk Of_none⟩
  | some a =>
    clear hy hc hl
    have kn := fun (w : World) => Lib.run_eql_slice_nil (P := Try.prog) w 22 5 (some a) ys.length c 0 0 Try.underlying22
    go_enter Try.func56, Try.ntmps56
    go_wp2_with (at_builtin; refine wpl_appB _ rfl (.tmp 5) (.tmp 6) _ rfl 5 Try.underlying22 infoU8 _ [] rfl (OwnB.lit _ _ _ _ _ rfl rfl (by simp)) _ _ rfl (HY.out.alloc _) HL.out ?_; intro v1 w1 A1 A2 A3)
    go_ret
    exact ⟨v1, rfl, by simpa [Hid] using A1, ((Fr.refl No _).alloc _).trans A2.out (fun k hk hS => absurd (Of_some.1 hS) (by simp; omega)), fun k hk => by rcases A3.out k hk with h1 | h1; exact .inr (Nat.le_of_eq (Of_some.1 h1).symm); simp at h1; exact .inr (by omega)⟩


set_option maxRecDepth 100000 in
set_option maxHeartbeats 400000 in
theorem copy_c (y : Value) (ys : List UInt8) (w : World) (hy : RdB w y ys) (hl : ys.length ≤ 140737488355328) :
    Calls Try.prog 23 #[y] w (RetB w No ys) := by
  obtain ⟨A, c, rfl, hc⟩ := hy.slice
  have HY := hid hy
  have HL := hid (show ([] : List UInt8).length + ys.length ≤ 140737488355328 by simpa using hl)
  clear hy hc hl
  go_enter Try.func23, Try.ntmps23
  go_wp2_with (at_builtin; refine wpl_appB _ rfl (.tmp 4) (.tmp 5) _ rfl 5 Try.underlying22 infoU8 _ [] rfl (OwnB.nil _ _) _ _ rfl HY.out HL.out ?_; intro v1 w1 A1 A2 A3)
  go_ret
  exact ⟨v1, rfl, by simpa [Hid] using A1, A2.out.mono (fun k hk hS => absurd hS Of_none), fun k hk => by rcases A3.out k hk with h1 | h1; exact absurd h1 Of_none; exact .inr h1⟩

/-- a string of bytes -/
def strOf (xs : List UInt8) : ByteArray := ⟨xs.toArray⟩
theorem run_convert_bytes {P : Program} (w : World) (src e : TypeId) (hs : P.underlying src = some (.slice e)) (he : P.underlying e = some (.int .u8)) (y : Value) (ys : List UInt8) (hy : RdB w y ys) :
    ∀ dst, P.underlying dst = some .string → (convert src dst y).run P w = .ok (.string (strOf ys)) w := by
  intro dst hd
  obtain ⟨A, c, rfl, hc, hl, hr⟩ := hy
  have hnum : strOfNums (ys.map fun b => (b.toNat : Int)) = strOf ys := by
    simp only [strOfNums, strOf, List.map_map]
    congr 2
    conv => rhs; rw [← List.map_id ys]
    apply List.map_congr_left
    intro b _
    simp
  rcases Nat.eq_zero_or_pos ys.length with h0 | h0
  · have : ys = [] := List.eq_nil_of_length_eq_zero h0
    subst this
    cases A with
    | none => exact run_convert_bytes_nil w src e hs he _ _ dst hd
    | some a =>
      rw [run_convert_bytes_string w src dst e _ _ c hs he hd]
      show (Conv.bytesToString (.slice (some a) 0 c)).run P w = _
      rw [run_bytesToString w a 0 c [] (by simp [loadCells, loadCellsFrom])]
      rfl
  · obtain ⟨b, off, rfl, hb, hx⟩ := hr h0
    rw [← hnum]
    refine run_convert_bytes_arg w src e hs he b off _ c _ (by simp) (fun i hi => ?_) dst hd
    refine hx i _ ?_
    simp [bvs, bv, List.getD, hi]

theorem strOf_inj {xs ys : List UInt8} : (strOf xs = strOf ys) ↔ xs = ys := by
  constructor
  · intro h
    have := congrArg (fun s : ByteArray => s.data.toList) h
    simpa [strOf] using this
  · rintro rfl; rfl

set_option maxRecDepth 100000 in
set_option maxHeartbeats 400000 in
theorem same_c (x y : Value) (xs ys : List UInt8) (w : World) (hx : RdB w x xs) (hy : RdB w y ys) :
    Calls Try.prog 34 #[x, y] w fun en w' => en = .returned (.bool (decide (xs = ys))) ∧ w' = w := by
  have k1 := run_convert_bytes (P := Try.prog) w 22 5 Try.underlying22 Try.underlying5 x xs hx 9 Try.underlying9
  have k2 := run_convert_bytes (P := Try.prog) w 22 5 Try.underlying22 Try.underlying5 y ys hy 9 Try.underlying9
  obtain ⟨A, c, rfl, hc⟩ := hx.slice
  obtain ⟨A', c', rfl, hc'⟩ := hy.slice
  clear hx hy
  go_enter Try.func34, Try.ntmps34
  go_wp2
  go_ret
  refine ⟨congrArg (fun b => Ending.returned (.bool b)) ?_, rfl⟩
  rw [ByteArray.toList_eq, ByteArray.toList_eq]
  show (xs.toArray.toList == ys.toArray.toList) = _
  rw [Bool.eq_iff_iff]; simp


theorem same_yes (x y : Value) (xs : List UInt8) (w : World) (hx : RdB w x xs) (hy : RdB w y xs) :
    Calls Try.prog 34 #[x, y] w fun en w' => en = .returned (.bool true) ∧ w' = w :=
  (same_c x y xs xs w hx hy).mono fun _ _ h => ⟨by rw [h.1]; simp, h.2⟩

set_option maxRecDepth 100000 in
set_option maxHeartbeats 400000 in
theorem pick_c (x n : Int) (h1 : -9223372036854775808 ≤ x) (h2 : x ≤ 9223372036854775807) (hn : 0 < n) (hn2 : n ≤ 4611686018427387904) (w : World) :
    Calls Try.prog 33 #[.int .i64 x, .int .i64 n] w fun en w' => en = .returned (.int .i64 (x % n)) ∧ w' = w := by
  have hm := Int.emod_nonneg x (show n ≠ 0 by omega)
  have hm2 := Int.emod_lt_of_pos x hn
  have ht : x.tmod n = x % n ∨ (x.tmod n = x % n - n ∧ 0 < x % n) := by
    rw [Int.tmod_eq_emod]
    by_cases h : 0 ≤ x ∨ n ∣ x
    · rw [if_pos h]; left; omega
    · rw [if_neg h]
      have : x % n ≠ 0 := fun e => h (.inr (Int.dvd_of_emod_eq_zero e))
      right; omega
  have HT := hid ht
  clear ht
  by_cases hneg : x.tmod n < 0
  · go_enter Try.func33, Try.ntmps33
    go_wp2
    go_ret
    refine ⟨congrArg (fun i => Ending.returned (.int .i64 i)) ?_, rfl⟩
    show wrap64 (x.tmod n + n) = x % n
    have := HT.out
    unfold wrap64
    omega
  · go_enter Try.func33, Try.ntmps33
    go_wp2
    go_ret
    refine ⟨congrArg (fun i => Ending.returned (.int .i64 i)) ?_, rfl⟩
    show x.tmod n = x % n
    have := HT.out
    omega
/-- a slice of bytes that came in -/
theorem rdb_of_row {w : World} {a : Option Addr} {len cap : Nat} {zs : List Int}
    (h : (a = none ∧ len = 0 ∧ cap = 0 ∧ zs = []) ∨ ∃ x, a = some x ∧ len ≤ cap ∧ cap ≤ maxLen ∧ zs.length = cap ∧ (∀ i, i < zs.length → w.cell? (x.add i) = some (.int .u8 (zs.getD i 0))) ∧ ∀ n ∈ zs, (Lit.int .u8 n).wf = true) :
    ∃ ys : List UInt8, ys.length = len ∧ RdB w (.slice a len cap) ys := by
  rcases h with ⟨rfl, rfl, rfl, rfl⟩ | ⟨x, rfl, hl, hm, hz, hcell, hwz⟩
  · exact ⟨[], rfl, RdB.nil w⟩
  · refine ⟨(zs.take len).map (fun z => UInt8.ofNat z.toNat), by simp; omega, ?_⟩
    refine ⟨some x, cap, by rw [List.length_map, List.length_take, Nat.min_eq_left (by omega)], by simp; omega, by simp [bvs], fun hn => ?_⟩
    have hn' : 0 < zs.length := by simp at hn; omega
    obtain ⟨b, off, spot⟩ := x
    have hc := hcell 0 hn'
    have hspot : spot = none := by simpa [Addr.add] using World.cell?_spot hc
    subst hspot
    refine ⟨b, off, rfl, ?_, fun j u hu => ?_⟩
    · have := World.block_lt_of_cell? w _ hc
      rw [add_off] at this
      exact this
    · simp only [bvs, List.map_map, List.getElem?_map, Option.map_eq_some_iff] at hu
      obtain ⟨z, hz1, rfl⟩ := hu
      rw [List.getElem?_take] at hz1
      split at hz1
      · have hj : j < zs.length := by
          rcases Nat.lt_or_ge j zs.length with h | h
          · exact h
          · rw [List.getElem?_eq_none h] at hz1; cases hz1
        have h1 := hcell j hj
        rw [add_off] at h1
        rw [h1]
        have h2 : zs[j] = z := by rw [List.getElem?_eq_getElem hj] at hz1; exact Option.some.inj hz1
        have h3 := hwz z (by rw [← h2]; exact List.getElem_mem hj)
        have h4 : 0 ≤ z ∧ z ≤ 255 := by simpa [Lit.wf, IntKind.min, IntKind.max, IntKind.signed, IntKind.bits] using h3
        rw [List.getD, List.getElem?_eq_getElem hj, h2]
        simp [bv]
        omega
      · cases hz1

/-- true, and nothing that was there is another -/
def RetT (w : World) : Ending → World → Prop := fun en w' => en = .returned (.bool true) ∧ Fr No w w'
end Go.Proofs.Ytfbhcapcnkcfdaa
