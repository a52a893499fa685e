import Derived.Test.YtfbhcapcnkcfdaaLogEnded
import Derived.Test.YtfbhcapcnkcfdaaLogH
import Derived.KernelRfl
/-! What the fixed bytes of LogNumbers are. -/
namespace Go.Proofs.Ytfbhcapcnkcfdaa
open Go.RowKit
set_option linter.unusedVariables false
set_option linter.unusedSimpArgs false

def oneB : List UInt8 := [111, 110, 101]
def secB : List UInt8 := [115, 101, 99, 111, 110, 100]
def allB : List UInt8 := recB oneB ++ recB secB
theorem one_good : Good oneB := ⟨by decide, by decide⟩
theorem sec_good : Good secB := ⟨by decide, by decide⟩
theorem one_len : (recB oneB).length = 11 := by rw [recB_length]; rfl
theorem sec_len : (recB secB).length = 14 := by rw [recB_length]; rfl
theorem all_len : allB.length = 25 := by unfold allB; rw [List.length_append, one_len, sec_len]
/-- a new disk that bytes were appended to -/
def diskB (bs : List UInt8) : DSt := ⟨1000, bs, 0, -1, false⟩
theorem diskB_new (bs : List UInt8) (h : bs.length ≤ 1000) : appendD (newD 1000) bs = (diskB bs, 0) := by
  have e := appendD_ok (d := newD 1000) (X := bs) rfl (by simp [newD]; omega) (by simp [newD])
  rw [e]
  rfl
theorem openB_whole (rs : List (List UInt8)) (h : ∀ r ∈ rs, Good r) : ∃ d2, openD (diskB (recsB rs)) = (d2, rs, 0) ∧ d2.bytes.length = (recsB rs).length := ⟨_, openD_whole _ rs rfl rfl h, rfl⟩
theorem openB_torn (rs : List (List UInt8)) (t : List UInt8) (h : ∀ r ∈ rs, Good r) (ht : nextL t = none) (h0 : 0 < t.length) : ∃ d2, openD (diskB (recsB rs ++ t)) = (d2, rs, 0) ∧ d2.bytes.length = (recsB rs).length :=
  ⟨_, openD_torn _ rs t rfl rfl h ht h0 (by simp [diskB]), rfl⟩
theorem openN0 (n : Nat) (h : n < 11) : ∃ d2 rs, openD (diskB (allB.take n)) = (d2, rs, 0) ∧ d2.bytes.length = (recsB rs).length ∧ rs.length = 0 := by
  have he : allB.take n = recsB [] ++ (recB oneB).take n := by
    unfold allB
    rw [List.take_append_of_le_length (by rw [one_len]; omega)]
    rfl
  by_cases h0 : n = 0
  · subst h0
    obtain ⟨d2, h1, h2⟩ := openB_whole [] (by simp)
    exact ⟨d2, [], by rw [he]; exact h1, h2, rfl⟩
  · obtain ⟨d2, h1, h2⟩ := openB_torn [] ((recB oneB).take n) (by simp) (nextL_torn oneB one_good n (by rw [one_len]; omega)) (by rw [List.length_take, one_len]; omega)
    exact ⟨d2, [], by rw [he]; exact h1, h2, rfl⟩
theorem openN1 (n : Nat) (h : 11 ≤ n) (h' : n < 25) : ∃ d2 rs, openD (diskB (allB.take n)) = (d2, rs, 0) ∧ d2.bytes.length = (recsB rs).length ∧ rs.length = 1 := by
  have he : allB.take n = recsB [oneB] ++ (recB secB).take (n - 11) := by
    unfold allB
    rw [List.take_append, List.take_of_length_le (by rw [one_len]; omega), one_len, recsB_one]
  have hg : ∀ r ∈ [oneB], Good r := by intro r hr; rw [List.mem_singleton.1 hr]; exact one_good
  by_cases h0 : n = 11
  · subst h0
    obtain ⟨d2, h1, h2⟩ := openB_whole [oneB] hg
    exact ⟨d2, [oneB], by rw [he]; simpa using h1, h2, rfl⟩
  · obtain ⟨d2, h1, h2⟩ := openB_torn [oneB] ((recB secB).take (n - 11)) hg (nextL_torn secB sec_good (n - 11) (by rw [sec_len]; omega)) (by rw [List.length_take, sec_len]; omega)
    exact ⟨d2, [oneB], by rw [he]; exact h1, h2, rfl⟩
theorem openN2 : ∃ d2 rs, openD (diskB (allB.take 25)) = (d2, rs, 0) ∧ d2.bytes.length = (recsB rs).length ∧ rs.length = 2 := by
  have he : allB.take 25 = recsB [oneB, secB] := by
    rw [List.take_of_length_le (by rw [all_len]; omega)]
    unfold allB
    rw [recsB_cons, recsB_one]
  have hg : ∀ r ∈ [oneB, secB], Good r := by
    intro r hr
    rcases List.mem_cons.1 hr with rfl | hr
    · exact one_good
    · rw [List.mem_singleton.1 hr]; exact sec_good
  obtain ⟨d2, h1, h2⟩ := openB_whole [oneB, secB] hg
  exact ⟨d2, [oneB, secB], by rw [he]; exact h1, h2, rfl⟩
/-- the byte at i is one more -/
def turnB (xs : List UInt8) (i : Nat) : List UInt8 := xs.set i (xs.getD i 0 + 1)
theorem turn_one : ∀ i : Fin 11, nextL (turnB (recB oneB ++ recB secB) i.val) = none := by decide +kernel
theorem turn_sec : ∀ i : Fin 14, nextL (turnB (recB secB) i.val) = none := by decide +kernel
theorem turn_len (xs : List UInt8) (i : Nat) : (turnB xs i).length = xs.length := by unfold turnB; simp
theorem openS0 (i : Nat) (h : i < 11) : ∃ d2 rs, openD (diskB (turnB allB i)) = (d2, rs, 0) ∧ rs.length = 0 := by
  obtain ⟨d2, h1, h2⟩ := openB_torn [] (turnB allB i) (by simp) (turn_one ⟨i, h⟩) (by rw [turn_len, all_len]; omega)
  exact ⟨d2, [], h1, rfl⟩
theorem openS1 (i : Nat) (h : 11 ≤ i) (h' : i < 25) : ∃ d2 rs, openD (diskB (turnB allB i)) = (d2, rs, 0) ∧ rs.length = 1 := by
  have he : turnB allB i = recsB [oneB] ++ turnB (recB secB) (i - 11) := by
    unfold turnB allB
    rw [List.set_append_right _ _ (by rw [one_len]; omega), one_len, recsB_one]
    congr 3
    rw [List.getD_eq_getElem?_getD, List.getD_eq_getElem?_getD, List.getElem?_append_right (by rw [one_len]; omega), one_len]
  obtain ⟨d2, h1, h2⟩ := openB_torn [oneB] (turnB (recB secB) (i - 11)) (by intro r hr; rw [List.mem_singleton.1 hr]; exact one_good) (turn_sec ⟨i - 11, by omega⟩) (by rw [turn_len, sec_len]; omega)
  exact ⟨d2, [oneB], by rw [he]; exact h1, rfl⟩
theorem zero_next : nextL (List.replicate 40 0) = none := by decide +kernel
theorem openZ : ∃ d2 rs, openD (diskB (List.replicate 40 0)) = (d2, rs, 0) ∧ rs.length = 0 ∧ d2.bytes.length = 0 := by
  obtain ⟨d2, h1, h2⟩ := openB_torn [] (List.replicate 40 0) (by simp) zero_next (by simp)
  exact ⟨d2, [], h1, rfl, h2⟩
/-! ## the disk of thirty bytes -/
def z22 : List UInt8 := List.replicate 22 0
theorem z22_good : Good z22 := ⟨by decide, by decide⟩
theorem full_0 : addL (diskOf 30 [] (-1)) (logOf []) [] = (diskOf 30 [] (-1), logOf [], 2) := by unfold addL; rw [if_pos (show ([] : List UInt8).length = 0 from rfl)]
theorem full_1 : addL (diskOf 30 [] (-1)) (logOf []) (List.replicate 1048577 0) = (diskOf 30 [] (-1), logOf [], 3) := by
  unfold addL
  rw [if_neg (by rw [List.length_replicate]; omega), if_pos (by rw [List.length_replicate]; omega)]
theorem full_2 : addL (diskOf 30 [] (-1)) (logOf []) (List.replicate 23 0) = (diskOf 30 [] (-1), logOf [], 5) :=
  addL_of_full 30 [] (-1) (List.replicate 23 0) ⟨by decide, by decide⟩ (by simp [recsB])
theorem full_3 : addL (diskOf 30 [] (-1)) (logOf []) (List.replicate 22 0) = (diskOf 30 [z22] (-1), logOf [z22], 0) :=
  addL_of 30 [] (-1) z22 z22_good (by simp [recsB, z22]) (by decide) (by decide) (by decide)
theorem full_4 : crashD (diskOf 30 [z22] (-1)) 0 = diskOf 30 [z22] (-1) := crash_all 30 [z22] (-1) false 0
theorem full_5 : cutD (diskOf 30 [z22] (-1)) 0 = (diskOf 30 [] (-1), 0) := by
  unfold cutD operD diskOf
  rw [if_neg nf, if_neg (by simp), if_neg (by simp)]
  rfl
theorem full_6 : armD (diskOf 30 [] (-1)) 1 = diskOf 30 [] 1 := by unfold armD diskOf; rw [if_neg nf]; rfl
/-- the power is gone behind the record -/
def diskX : DSt := ⟨30, recB [120], 0, -1, true⟩
theorem full_7 : addL (diskOf 30 [] 1) (logOf [z22]) [120] = (diskX, ⟨1, 30, true⟩, 15) := by
  rw [addL_one (diskOf 30 [] 1) (logOf [z22]) [120] (good1 120) rfl rfl (by simp [diskOf, recsB]) rfl]
  rfl
theorem full_8 : crashD diskX 100 = diskOf 30 [[120]] (-1) := by
  have h : (recB [120]).length = 9 := recB_length [120]
  have hl : left diskX 100 = 9 := by unfold left diskX; dsimp only; rw [h]; rfl
  unfold crashD
  rw [hl]
  unfold diskX diskOf
  rw [recsB_one, h, List.take_of_length_le (by rw [h]; omega)]
theorem full_9 (d : DSt) : addL d ⟨1, 30, true⟩ [121] = (d, ⟨1, 30, true⟩, 15) := addL_over d _ [121] (good1 121) rfl
theorem full_10 : openD (diskOf 30 [[120]] (-1)) = (diskOf 30 [[120]] (-1), [[120]], 0) :=
  openD_whole _ [[120]] rfl rfl (by intro r hr; rw [List.mem_singleton.1 hr]; exact good1 120)
/-- 'make([]byte, n)', as one step of a region that draws -/
theorem step_makeB {P : Program} (w : World) {ops : Array Oper} {o : Oper} {a : Act} {K : Act → World → Prop} {Q : Exit → Act → World → Prop} {E : Prop}
    (hgd : o.guard = none) (l c : Operand) (t : TypeId) (hop : o.op = Op.makeSlice t l c) (e : TypeId) (h1 : P.underlying t = some (.slice e))
    (hinfo : (P.info? e).map (fun i => (i.zero, i.size, i.bytes)) = some (some (.int .u8 0), 1, 1))
    (kl kc : IntKind) (L C : Int) (n : Nat) (hl : a.eval l = .int kl L) (hc : a.eval c = .int kc C) (hL : L = (n : Int)) (hC : C = (n : Int)) (b2 : n ≤ 281474976710656)
    (hK : ∀ w', Hid (OwnB e w' (.slice (some ⟨w.heap.size, 0, none⟩) n n) (List.replicate n 0)) → Hid (Fr No w w') → K (a.put o.dst (.slice (some ⟨w.heap.size, 0, none⟩) n n)) w') :
    if Region.wanted o (yielded ops a.tmps) = true then Oper.wp P o a w K Q else E := by
  have hw : Region.wanted o (yielded ops a.tmps) = true := by simp [Region.wanted, hgd]
  rw [if_pos hw]
  obtain ⟨i, hi, hz, hsize, hby⟩ := info_parts hinfo
  obtain ⟨w', hrun, r1, r2⟩ := run_make_full (P := P) w 0 t e i _ 1 h1 hi hz hsize kl kc n (by rw [hby]; omega) (by simp only [maxLen]; omega) (Nat.zero_le _)
  subst hL
  subst hC
  unfold Oper.wp
  simp [execOp, hop, hl, hc, hrun, Result.andThen]
  refine hK w' ?_ ((Fr.grown r2).mono (fun k _ h => by cases h))
  have := Own.of_owns r1
  unfold Hid OwnB
  rw [List.length_replicate]
  have hx : bvs (List.replicate n 0) = (madeCells (Value.int IntKind.u8 0).cells (n * 1)).toList := by
    apply List.ext_getElem
    · simp [bvs, madeCells]
    · intro i h1 h2
      simp [bvs, bv, madeCells, Value.cells, Nat.mod_one]
  rw [hx]
  exact this
/-- bytes that were made, apart from the disk -/
structure Made (w : World) (g : Nat) (v : Value) (y : Value) (xs : List UInt8) : Prop where
  own : OwnB 5 w y xs
  sep : ∀ k, Of y k → ¬ Its g v k
/-- '(Log).Add', as one step of a region that draws -/
theorem step_add {w0 w : World} {g gl : Nat} {v : Value} {d : DSt} {l : LSt} {T : Nat → Option Bool} {o : Oper} {a : Act} {K : Act → World → Prop} {Q : Exit → Act → World → Prop} {E : Prop} (hgd : o.guard = none) (x y : Operand) (t t2 : TypeId)
    (ho : o.op = .call { callee := .value (.func 10), args := #[x, y], argTypes := #[t, t2] }) (hx : a.eval x = .pointer (some ⟨gl, 0, none⟩)) (v2 : Value) (hy : a.eval y = v2) (S : SL w0 w g v d gl l) (xs : List UInt8) (hr : RdB w v2 xs)
    (hb : (0 : Int) ≤ l.n ∧ l.n ≤ 4611686018427387904 ∧ (0 : Int) ≤ l.bytes ∧ l.bytes ≤ 4611686018427387904) (r : DSt × LSt × Nat) (hadd : addL d l xs = r)
    (h : ∀ v' w', SL w0 w' g v' r.1 gl r.2.1 → (∀ y xs, Made w g v y xs → Made w' g v' y xs) → K (a.put o.dst (.int .i64 r.2.2)) w') :
    if Region.wanted o T = true then Oper.wp Try.prog o a w K Q else E := by
  have hw : ∀ T, Region.wanted o T = true := fun T => by simp [Region.wanted, hgd]
  rw [if_pos (hw _)]
  suffices key : if Region.wanted o (yielded #[] a.tmps) = true then Oper.wp Try.prog o a w K Q else E by
    rw [if_pos (hw _)] at key
    exact key
  refine step_fn2 hgd 10 x y t t2 ho _ v2 hx hy (fun e w' => ∃ v', e = .int .i64 r.2.2 ∧ SL w0 w' g v' r.1 gl r.2.1 ∧ ∀ y xs, Made w g v y xs → Made w' g v' y xs) ((add_c S.st.disk S.log v2 xs hr hb.1 hb.2.1 hb.2.2.1 hb.2.2.2 r hadd).mono ?_) (by rfl) ?_
  · intro e w' hq
    obtain ⟨v', he, S', hf, hg⟩ := S.add hq
    refine ⟨_, he, v', rfl, S', fun y xs hm => ⟨hm.own.keep hf (fun k hk hs => ?_), fun k hk hi => ?_⟩⟩
    · rcases hs with hs | rfl
      · exact hm.sep k hk hs
      · exact hm.own.ne_ S.log (by decide) hk
    · rcases hi with e | hi
      · exact hm.sep k hk (.inl e)
      · rcases hg k hi with h1 | h1
        · exact hm.sep k hk (.inr h1)
        · have := hm.own.lt k hk
          omega
  · rintro e w' ⟨v', rfl, S', hm⟩
    exact h v' w' S' hm
/-- 'make' there: what it comes to, in a word of its own -/
theorem make_word : ∃ MK : Nat → World → World, (∀ (n : Nat) (w : World), n ≤ 281474976710656 → (Instr.makeSlice 22 (.int .i64 (n : Int)) (.int .i64 (n : Int))).run Try.prog w = .ok (.slice (some ⟨w.heap.size, 0, none⟩) n n) (MK n w)) ∧
    (∀ (n : Nat) (w : World), Fr No w (MK n w)) ∧ ∀ (n : Nat), n ≤ 281474976710656 → ∀ w : World, OwnB 5 (MK n w) (.slice (some ⟨w.heap.size, 0, none⟩) n n) (List.replicate n 0) := by
  obtain ⟨i, hi, hz, hsize, hby⟩ := info_parts infoU8
  have key : ∀ (n : Nat) (w : World), ∃ w', Fr No w w' ∧ (n ≤ 281474976710656 → (Instr.makeSlice 22 (.int .i64 (n : Int)) (.int .i64 (n : Int))).run Try.prog w = .ok (.slice (some ⟨w.heap.size, 0, none⟩) n n) w' ∧ OwnB 5 w' (.slice (some ⟨w.heap.size, 0, none⟩) n n) (List.replicate n 0)) := by
    intro n w
    by_cases b2 : n ≤ 281474976710656
    · obtain ⟨w', hrun, r1, r2⟩ := run_make_full (P := Try.prog) w 0 22 5 i _ 1 Try.underlying22 hi hz hsize .i64 .i64 n (by rw [hby]; omega) (by simp only [maxLen]; omega) (Nat.zero_le _)
      refine ⟨w', (Fr.grown r2).mono (fun k _ h => by cases h), fun _ => ⟨hrun, ?_⟩⟩
      have := Own.of_owns r1
      unfold OwnB
      rw [List.length_replicate]
      have hx : bvs (List.replicate n 0) = (madeCells (Value.int IntKind.u8 0).cells (n * 1)).toList := by
        apply List.ext_getElem
        · simp [bvs, madeCells]
        · intro i h1 h2
          simp [bvs, bv, madeCells, Value.cells, Nat.mod_one]
      rw [hx]
      exact this
    · exact ⟨w, Fr.refl _ _, fun h => absurd h b2⟩
  exact ⟨fun n w => (key n w).choose, fun n w hn => ((key n w).choose_spec.2 hn).1, fun n w => (key n w).choose_spec.1, fun n hn w => ((key n w).choose_spec.2 hn).2⟩
theorem Made.new {w0 w w' : World} {g gl : Nat} {v : Value} {d : DSt} {l : LSt} {n : Nat} (S : SL w0 w g v d gl l) (h : OwnB 5 w' (.slice (some ⟨w.heap.size, 0, none⟩) n n) (List.replicate n 0)) : Made w' g v (.slice (some ⟨w.heap.size, 0, none⟩) n n) (List.replicate n 0) := by
  refine ⟨h, fun k hk hi => ?_⟩
  have h1 := S.st.disk.its_lt hi
  have h2 := Of_some.1 hk
  dsimp only at h2
  omega
theorem Made.keep {w w' : World} {g : Nat} {v y : Value} {xs : List UInt8} (h : Made w g v y xs) (hf : Fr No w w') : Made w' g v y xs := ⟨h.own.keep hf (fun k _ => not_no k), h.sep⟩
end Go.Proofs.Ytfbhcapcnkcfdaa
