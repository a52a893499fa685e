import Derived.Test.YtfbhcapcnkcfdaaCrc
import Derived.Test.YtfbhcapcnkcfdaaLogMath
import Derived.Test.YtfbhcapcnkcfdaaDiskS
/-! The contracts of package log: next, Len, Bytes. -/
namespace Go.Proofs.Ytfbhcapcnkcfdaa
open Go.RowKit
set_option linter.unusedVariables false
set_option linter.unusedSimpArgs false

/-- a log: how many records, how many bytes, does it take no more? -/
structure LSt where
  n : Int
  bytes : Int
  over : Bool
def LSt.cells (l : LSt) (g : Nat) : Array Value := #[.pointer (some ⟨g, 0, none⟩), .int .i64 l.n, .int .i64 l.bytes, .bool l.over]
abbrev IsLog (w : World) (gl g : Nat) (l : LSt) : Prop := Blk w gl 26 (l.cells g)
theorem Blk.fours {w : World} {g : Nat} {t : TypeId} {a b c d : Value} (h : Blk w g t #[a, b, c, d]) :
    w.cell? ⟨g, 0, none⟩ = some a ∧ w.cell? ⟨g, 1, none⟩ = some b ∧ w.cell? ⟨g, 2, none⟩ = some c ∧ w.cell? ⟨g, 3, none⟩ = some d ∧ ∀ i, w.frozen? ⟨g, i, none⟩ = false :=
  ⟨h.cell 0, h.cell 1, h.cell 2, h.cell 3, h.frozen⟩

set_option maxHeartbeats 400000 in
theorem llen_c {w : World} {gl g : Nat} {l : LSt} (h : IsLog w gl g l) : Calls Try.prog 11 #[.pointer (some ⟨gl, 0, none⟩)] w fun e w' => e = .returned (.int .i64 l.n) ∧ w' = w := by
  obtain ⟨k0, k1, k2, k3, kf⟩ := Blk.fours h
  clear h
  go_enter Try.func11, Try.ntmps11
  go_wp2
  go_ret
  exact ⟨rfl, rfl⟩
set_option maxHeartbeats 400000 in
theorem lbytes_c {w : World} {gl g : Nat} {l : LSt} (h : IsLog w gl g l) : Calls Try.prog 12 #[.pointer (some ⟨gl, 0, none⟩)] w fun e w' => e = .returned (.int .i64 l.bytes) ∧ w' = w := by
  obtain ⟨k0, k1, k2, k3, kf⟩ := Blk.fours h
  clear h
  go_enter Try.func12, Try.ntmps12
  go_wp2
  go_ret
  exact ⟨rfl, rfl⟩

theorem RdB.too {w w' : World} {v : Value} {xs : List UInt8} (h : RdB w v xs) (hf : Fr No w w') : RdB w' v xs := h.keep hf (fun k _ => not_no k)
/-- what next tells: the record, and whether there is one (else whatever is told beside it) -/
def RetNext (w : World) (o : Option (List UInt8)) : Ending → World → Prop := fun e w' => ∃ v xs, e = .returned (.tuple #[v, .bool o.isSome]) ∧ OwnB 5 w' v xs ∧ (∀ r, o = some r → xs = r) ∧ Fr No w w' ∧ Grows w No v

set_option maxRecDepth 100000 in
set_option maxHeartbeats 1000000 in
theorem next_c (y : Value) (ys : List UInt8) (w : World) (hy : RdB w y ys) (hl : ys.length ≤ 67108864) (o : Option (List UInt8)) (ho : nextL ys = o) :
    Calls Try.prog 40 #[y] w (RetNext w o) := by
  obtain ⟨A, c, rfl, hc⟩ := hy.slice
  have HY := hid hy
  have HN := hid (grows_nil w)
  clear hy
  by_cases c1 : ys.length < 8
  · have ho2 : o = none := by rw [← ho]; unfold nextL; rw [if_pos c1]
    subst ho2
    clear ho
    go_enter Try.func40, Try.ntmps40
    go_wp2_with fail
    go_ret2
    exact ⟨_, [], rfl, OwnB.nil _ _, by simp, Fr.refl _ _, HN.out⟩
  · have c1' : ¬ (ys.length : Int) < 8 := by omega
    obtain ⟨m, hm⟩ : ∃ m, num4 ys = m := ⟨_, rfl⟩
    have hm4 := num4_lt ys
    rw [hm] at hm4
    by_cases c2 : m < 1 ∨ 1048576 < m ∨ ys.length < 8 + m
    · have ho2 : o = none := by rw [← ho]; unfold nextL; rw [if_neg c1, hm, if_pos c2]
      subst ho2
      have HM := hid hm
      clear ho hm
      by_cases e1 : m < 1
      · have d1 : decide ((m : Int) < 1) = true := by simp; omega
        clear c2
        go_enter Try.func40, Try.ntmps40
        go_wp2_with fail
        refine (number_c _ ys _ HY.out (by omega) (by omega)).mono ?_
        rintro e w1 ⟨rfl, n1, rfl⟩
        rw [HM.out]
        go_wp2_with fail
        go_ret2
        exact ⟨_, [], rfl, OwnB.nil _ _, by simp, (Fr.refl _ _).drewN _, HN.out⟩
      · have d1 : decide ((m : Int) < 1) = false := by simp; omega
        by_cases e2 : 1048576 < m
        · have d2 : decide ((1048576 : Int) < m) = true := by simp; omega
          clear c2
          go_enter Try.func40, Try.ntmps40
          go_wp2_with fail
          refine (number_c _ ys _ HY.out (by omega) (by omega)).mono ?_
          rintro e w1 ⟨rfl, n1, rfl⟩
          rw [HM.out]
          go_wp2_with fail
          go_ret2
          exact ⟨_, [], rfl, OwnB.nil _ _, by simp, (Fr.refl _ _).drewN _, HN.out⟩
        · have d2 : decide ((1048576 : Int) < m) = false := by simp; omega
          have d3 : (ys.length : Int) - 8 < m := by omega
          clear c2
          go_enter Try.func40, Try.ntmps40
          go_wp2_with fail
          refine (number_c _ ys _ HY.out (by omega) (by omega)).mono ?_
          rintro e w1 ⟨rfl, n1, rfl⟩
          rw [HM.out]
          go_wp2_with fail
          go_ret2
          exact ⟨_, [], rfl, OwnB.nil _ _, by simp, (Fr.refl _ _).drewN _, HN.out⟩
    · have d1 : decide ((m : Int) < 1) = false := by simp; omega
      have d2 : decide ((1048576 : Int) < m) = false := by simp; omega
      have d3 : ¬ (ys.length : Int) - 8 < m := by omega
      have d4 : (4 : Int) ≤ c := by omega
      have l4 : (4 : Int) ≤ ys.length := by omega
      have d8 : (8 : Int) + m ≤ c := by omega
      have n4 : ¬ c = 4 := by omega
      have n8 : ¬ c = 8 := by omega
      have ho3 : o = if num4 (ys.drop 4) = crc ((ys.drop 8).take m) then some ((ys.drop 8).take m) else none := by rw [← ho]; unfold nextL; rw [if_neg c1, hm, if_neg c2]
      have HO := hid ho3
      have HM := hid hm
      obtain ⟨b, off, hA, hcell⟩ := HY.out.at_ (k := 0) (by omega)
      subst hA
      have hml : ((ys.drop 8).take m).length = m := by simp; omega
      have hd8 := HY.out.drop (m := 8) (c' := c - 8) (by omega) (by omega)
      rw [if_neg n8] at hd8
      have hdl : (ys.drop 8).length = ys.length - 8 := by simp
      rw [← hdl] at hd8
      have hr8 := hd8.take (m := m) (c' := c - 8) (by omega) (by omega)
      have hd4 := HY.out.drop (m := 4) (c' := c - 4) (by omega) (by omega)
      rw [if_neg n4] at hd4
      have HR8 := hid (show RdB w (.slice (some ⟨b, off + 8, none⟩) m (c - 8)) ((ys.drop 8).take m) from hr8)
      have HD4 := hid (show RdB w (.slice (some ⟨b, off + 4, none⟩) (ys.length - 4) (c - 4)) (ys.drop 4) from hd4)
      have HL4 := hid (show (ys.drop 4).length = ys.length - 4 by simp)
      have HML := hid hml
      have HL := hid hl
      have HC2 := hid c2
      clear hd8 hr8 hd4 hml hdl ho3 ho hm hcell
      obtain ⟨rec, hrec⟩ : ∃ rec, (ys.drop 8).take m = rec := ⟨_, rfl⟩
      rw [hrec] at HR8 HO HML
      clear hrec c2
      by_cases c3 : num4 (ys.drop 4) = crc rec
      · have hb : (((num4 (ys.drop 4) : Nat) : Int) == ((crc rec : Nat) : Int)) = true := by rw [beq_iff_eq]; omega
        have ho4 : o = some rec := by rw [HO.out, if_pos c3]
        subst ho4
        clear c3
        go_enter Try.func40, Try.ntmps40
        go_wp2_with fail
        refine (number_c _ ys _ HY.out (by omega) (by have := HL.out; omega)).mono ?_
        rintro e w1 ⟨rfl, n1, rfl⟩
        rw [HM.out]
        go_wp2_with fail
        go_region_held3 (fun w' => Fr No w w')
          (first
            | exact ((Fr.refl No w).drewN n1).drew
            | assumption
            | exact Fr.drewN (by assumption) _
            | exact Fr.fresh_no (by assumption) HF4.out
            | fail)
          ((first
          | (go_at_call 56; refine (clone_c _ rec _ (HR8.out.too (by assumption)) (by have := HML.out; have := HL.out; omega)).mono ?_; rintro e w4 ⟨v4, rfl, O4', F4', G4'⟩; obtain ⟨A4, c4, rfl, hc4⟩ := O4'.slice; have HO4 := hid O4'; have HF4 := hid F4'; have HG4 := hid (show Grows w No _ from fun k hk => (G4' k hk).imp id (fun h => Nat.le_trans (Fr.size (S := No) (w := w) (by assumption)) h)); clear O4' F4' G4')
          | (go_at_call 57; refine (number_c _ (ys.drop 4) _ (HD4.out.too (by assumption)) (by rw [HL4.out]; omega) (by have := HL.out; rw [HL4.out]; omega)).mono ?_; rintro e w5 ⟨rfl, n5, rfl⟩)
          | (go_at_call 36; refine (crc_c _ rec _ (HR8.out.too (by assumption)) (by have := HML.out; have := HL.out; omega)).mono ?_; rintro e w6 ⟨rfl, rfl⟩)
          | fail))
        all_goals
          go_wp2_with fail
          go_ret2
          exact ⟨_, rec, rfl, by first | exact HO4.out | exact HO4.out.drewN _, by simp, by assumption, HG4.out⟩
      · have hb : (((num4 (ys.drop 4) : Nat) : Int) == ((crc rec : Nat) : Int)) = false := by rw [beq_eq_false_iff_ne]; omega
        have ho4 : o = none := by rw [HO.out, if_neg c3]
        subst ho4
        clear c3
        go_enter Try.func40, Try.ntmps40
        go_wp2_with fail
        refine (number_c _ ys _ HY.out (by omega) (by have := HL.out; omega)).mono ?_
        rintro e w1 ⟨rfl, n1, rfl⟩
        rw [HM.out]
        go_wp2_with fail
        go_region_held3 (fun w' => Fr No w w')
          (first
            | exact ((Fr.refl No w).drewN n1).drew
            | assumption
            | exact Fr.drewN (by assumption) _
            | exact Fr.fresh_no (by assumption) HF4.out
            | fail)
          ((first
          | (go_at_call 56; refine (clone_c _ rec _ (HR8.out.too (by assumption)) (by have := HML.out; have := HL.out; omega)).mono ?_; rintro e w4 ⟨v4, rfl, O4', F4', G4'⟩; obtain ⟨A4, c4, rfl, hc4⟩ := O4'.slice; have HO4 := hid O4'; have HF4 := hid F4'; have HG4 := hid (show Grows w No _ from fun k hk => (G4' k hk).imp id (fun h => Nat.le_trans (Fr.size (S := No) (w := w) (by assumption)) h)); clear O4' F4' G4')
          | (go_at_call 57; refine (number_c _ (ys.drop 4) _ (HD4.out.too (by assumption)) (by rw [HL4.out]; omega) (by have := HL.out; rw [HL4.out]; omega)).mono ?_; rintro e w5 ⟨rfl, n5, rfl⟩)
          | (go_at_call 36; refine (crc_c _ rec _ (HR8.out.too (by assumption)) (by have := HML.out; have := HL.out; omega)).mono ?_; rintro e w6 ⟨rfl, rfl⟩)
          | fail))
        all_goals
          go_wp2_with fail
          go_ret2
          exact ⟨_, rec, rfl, by first | exact HO4.out | exact HO4.out.drewN _, by simp, by assumption, HG4.out⟩
end Go.Proofs.Ytfbhcapcnkcfdaa
