import Derived.Test.YtjgcibjodiefkaaNetF
import Derived.Test.YtjgcibjodiefkaaRowKit
/-! NetSpares: what is handed in, and what is told, shares no memory with what is on its way. -/
namespace Go.Proofs.Ytjgcibjodiefkaa
open Go.RowKit
set_option linter.unusedVariables false
set_option linter.unusedSimpArgs false

theorem send_ok {nodes : Int} {L : List G3} {a z : Int} {b : List UInt8} (h1 : 0 ≤ a ∧ a < nodes) (h2 : 0 ≤ z ∧ z < nodes) (h3 : b.length ≤ 1048640) (h4 : L.length < 4096) : sendL nodes L a z b = (L ++ [(a, z, b)], 0) := by
  unfold sendL
  rw [if_neg (by simp [h1, h2]), if_neg (by omega), if_neg (by omega)]
theorem copy_ok {nodes : Int} {L : List G3} {i : Nat} {p : G3} (hp : L[i]? = some p) (h1 : 0 ≤ p.1 ∧ p.1 < nodes) (h2 : 0 ≤ p.2.1 ∧ p.2.1 < nodes) (h3 : p.2.2.length ≤ 1048640) (h4 : L.length < 4096) : copyL nodes L i = (L ++ [p], 0) := by
  have hi : i < L.length := (List.getElem?_eq_some_iff.1 hp).1
  have hl : lookL L i = (p, true) := by
    unfold lookL
    rw [if_pos (by omega)]
    simp [List.getD, hp]
  unfold copyL
  rw [hl]
  simp only [if_true]
  exact send_ok h1 h2 h3 h4
theorem look_ok {L : List G3} {i : Nat} {p : G3} (hp : L[i]? = some p) : lookL L i = (p, true) := by
  have hi : i < L.length := (List.getElem?_eq_some_iff.1 hp).1
  unfold lookL
  rw [if_pos (by omega)]
  simp [List.getD, hp]

set_option maxRecDepth 100000 in
set_option maxHeartbeats 2000000 in
theorem netSpares_c (y : Value) (bs : List UInt8) (w : World) (hy : InB w y bs) :
    Calls Try.prog 9 #[y] w (RetT w) := by
  obtain ⟨A, c, rfl, hc⟩ := hy.1.slice
  have HY := hid hy
  clear hy
  by_cases c1 : bs.length = 0 ∨ 100 < bs.length
  · have hend : ((bs.length : Int) == 0) = true ∨ ((bs.length : Int) == 0) = false ∧ 100 < (bs.length : Int) := by
      rcases c1 with h | h
      · left; rw [beq_iff_eq]; omega
      · right; exact ⟨by rw [beq_eq_false_iff_ne]; omega, by omega⟩
    clear c1
    rcases hend with h | ⟨h, h'⟩
    all_goals
      go_enter Try.func9, Try.ntmps9
      go_wp2_with fail
      refine (new_c 2 (by omega) (by omega) _).mono ?_
      rintro e w1 ⟨g, rfl, I, F, hg⟩
      have F1 := hid F
      clear I F hg
      go_wp2_with fail
      refine (awake_c _).mono ?_
      rintro e w5 ⟨rfl, B⟩
      have F5 := hid (F1.out.fresh_no B)
      clear B
      go_wp2_with fail
      go_ret
      exact ⟨rfl, F5.out⟩
  · have hb0 : ((bs.length : Int) == 0) = false := by rw [beq_eq_false_iff_ne]; omega
    have hb1 : (bs.length : Int) ≤ 100 := by omega
    have hpos : 0 < bs.length := by omega
    have HP := hid hpos
    have hl1 : bs.length ≤ 100 := by omega
    have HL1 := hid hl1
    clear c1 hpos hl1
    go_enter Try.func9, Try.ntmps9
    go_wp2_with fail
    refine (new_c 2 (by omega) (by omega) _).mono ?_
    rintro e w1 ⟨g, rfl, I, F, hg⟩
    have S1 := hid (StN.start I F hg)
    clear I F hg
    go_wp2_with fail
    refine (copy_c _ bs _ (HY.out.1.keep S1.out.fr (fun k _ => not_no k)) (by have := HL1.out; omega)).mono ?_
    rintro e w2 ⟨v2, rfl, O, F, G⟩
    obtain ⟨g2, cap2, rfl, hcap2, hg2⟩ := O.form HP.out
    have S2 := hid (S1.out.keep F)
    have O2 := hid O
    have HG2 := hid (show ¬ g2 = g ∧ w.heap.size ≤ g2 from ⟨fun e => by have := S1.out.n.lt g rfl; rcases G g2 (Of_some.2 rfl) with h | h; exact h; omega, by rcases G g2 (Of_some.2 rfl) with h | h; exact absurd h (not_no _); have := S1.out.fr.size; omega⟩)
    clear O F G S1 hg2
    go_wp2_with fail
    refine (send_c S2.out.n 0 1 _ bs O2.out.rd (by have := HL1.out; omega) ([(0, 1, bs)], 0) (send_ok (L := []) (by omega) (by omega) (by have := HL1.out; omega) (by simp))).mono ?_
    intro e w3 hr
    obtain ⟨F3, rfl, S', hF, hG⟩ := S2.out.send' (Fr.refl No _) hr
    have S3 := hid S'
    have O3 := hid (O2.out.keep hF (fun k hk => by rw [Of_some.1 hk]; exact HG2.out.1))
    have N3 := hid (show ¬ F3 g2 from fun h => by
      rcases hG _ h with h | h
      · exact HG2.out.1 h
      · have := O2.out.lt g2 (Of_some.2 rfl); omega)
    clear S' hr hF hG S2 O2
    obtain ⟨b0, hb⟩ : ∃ b0, bs[0]? = some b0 := ⟨bs[0]'HP.out, by simp [HP.out]⟩
    have k0 := O3.out.cell hb
    have kf := O3.out.frozen rfl
    have HB := hid hb
    clear hb
    have i0 : (0 : Int) < bs.length := by have := HP.out; omega
    go_wp2_with fail
    have SS := hid (fun x => S3.out.keepS (w1 := w3.setCell ⟨g2, 0, none⟩ x) (Fr.setCell (S := fun k => k = g2) (Fr.refl _ w3) (fun _ => rfl) _) (fun k hk e => N3.out (e ▸ hk)) (fun k e => by rw [e]; exact HG2.out.2))
    refine (ncopy_c (SS.out _).n 0 ([(0, 1, bs), (0, 1, bs)], 0) (copy_ok (L := [(0, 1, bs)]) (i := 0) rfl (by simp) (by simp) (by have := HL1.out; simp; omega) (by simp))).mono ?_
    intro e w4 hr
    obtain ⟨F, rfl, S', -, -⟩ := (SS.out _).send' (Fr.refl No _) hr
    have S4 := hid (show StN w w4 g F 2 [(0, 1, bs), (0, 1, bs)] from S')
    clear S' hr S3 SS N3 O3 HG2 k0 kf HB
    go_wp2_with fail
    go_loopg [6] 2 (fun q v6 w' => ∃ i : Nat, v6 = .int .i64 i ∧ i ≤ 2 ∧ q = 2 - i ∧ Hid (StN w w' g F 2 [(0, 1, bs), (0, 1, bs)]))
    case atStart => exact ⟨0, rfl, by omega, rfl, S4⟩
    case round =>
      clear S4
      obtain ⟨i, rfl, hi, hq, HS⟩ := hrel
      have HQ := hid hq
      clear hq
      by_cases d1 : i < 2
      · have i2 : (i : Int) < 2 := by omega
        have hz : [((0, 1, bs) : G3), (0, 1, bs)][i]? = some (0, 1, bs) := by rcases i with _ | _ | i; rfl; rfl; omega
        have HZ := hid hz
        clear hz
        go_wp2_with fail
        refine (look_c HS.out.n i _ (look_ok HZ.out)).mono ?_
        rintro e w5 ⟨v5, rfl, O, F', G⟩
        replace O : OwnB 5 w5 v5 bs := O
        obtain ⟨g5, cap5, rfl, hcap5, hg5⟩ := O.form HP.out
        have hF5 := F'.alloc (.cells #[.int .i64 0, .int .i64 1, .slice (some ⟨g5, 0, none⟩) bs.length cap5] 29)
        have S5 := hid (HS.out.keep hF5)
        have O5 := hid (O.alloc (.cells #[.int .i64 0, .int .i64 1, .slice (some ⟨g5, 0, none⟩) bs.length cap5] 29))
        have N5 := hid (show ¬ F g5 ∧ w.heap.size ≤ g5 ∧ g5 < w5.heap.size from by
          have h1 : wr.heap.size ≤ g5 := by rcases G g5 (Of_some.2 rfl) with h | h; exact absurd h (not_no _); exact h
          exact ⟨fun h => by have := HS.out.n.lt _ h; omega, Nat.le_trans HS.out.fr.size h1, O.lt g5 (Of_some.2 rfl)⟩)
        have Y5 := hid (HY.out.1.keep S5.out.fr (fun k _ => not_no k))
        obtain ⟨b5, hb5⟩ : ∃ b0, bs[0]? = some b0 := ⟨bs[0]'HP.out, by simp [HP.out]⟩
        have k5 := O5.out.cell hb5
        have kf5 := O5.out.frozen rfl
        have n5 : ¬ g5 = w5.heap.size := by omega
        have n6 : ¬ w5.heap.size = g5 := by omega
        have HG5 := hid hg5
        have HB5 := hid hb5
        clear O F' G hF5 hg5 hb5
        go_wp2_with fail
        refine (same_yes _ _ bs _ O5.out.rd Y5.out).mono ?_
        rintro e wx ⟨rfl, rfl⟩
        go_wp2_with fail
        go_roundg (2 - (i + 1))
        case measure => have := HQ.out; omega
        case rel =>
          refine ⟨i + 1, by go_num, by omega, rfl, S5.out.keepS (Fr.setCell (S := fun k => k = g5) (Fr.refl _ _) (fun _ => rfl) _) (fun k hk e => N5.out.1 (e ▸ hk)) (fun k e => by rw [e]; exact N5.out.2.1)⟩
      · have hi2 : i = 2 := by omega
        subst hi2
        clear d1
        go_wp2_with fail
        refine (look_c HS.out.n 0 ((0, 1, bs), true) (look_ok (L := [(0, 1, bs), (0, 1, bs)]) (i := 0) rfl)).mono ?_
        rintro e w5 ⟨v5, rfl, O, F', G⟩
        replace O : OwnB 5 w5 v5 bs := O
        obtain ⟨A5, c5, rfl, hc5⟩ := O.slice
        have hF5 := F'.alloc (.cells #[.int .i64 0, .int .i64 1, .slice A5 bs.length c5] 29)
        have S5 := hid (HS.out.keep hF5)
        have O5 := hid (O.alloc (.cells #[.int .i64 0, .int .i64 1, .slice A5 bs.length c5] 29))
        have D5 := hid (Blk.new w5 29 #[.int .i64 0, .int .i64 1, .slice A5 bs.length c5])
        have N5 := hid (show ¬ F w5.heap.size ∧ ∀ k, Of (.slice A5 bs.length c5) k → ¬ F k from ⟨fun h => by have := HS.out.n.lt _ h; have := F'.size; omega, fun k hk h => by have h1 := HS.out.n.lt _ h; rcases G k hk with h2 | h2; exact h2; omega⟩)
        clear O F' G hF5
        go_wp2_with fail
        refine (take_c S5.out.n 1 ((0, 1, bs), true) (look_ok (L := [(0, 1, bs), (0, 1, bs)]) (i := 1) rfl) [(0, 1, bs)] rfl).mono ?_
        rintro e w6 ⟨v6, rfl, O6, I6, F6, G6⟩
        replace O6 : OwnB 5 w6 v6 bs := O6
        obtain ⟨A6, c6, rfl, hc6⟩ := O6.slice
        have hF6 : Fr No w6 (w6.alloc (.cells #[.int .i64 0, .int .i64 1, .slice A6 bs.length c6] 29)) := (Fr.refl No w6).alloc _
        have S6 := hid ((S5.out.same I6 F6).keep hF6)
        have O6' := hid (O6.keep hF6 (fun k _ => not_no k))
        have D6 := hid (Blk.new w6 29 #[.int .i64 0, .int .i64 1, .slice A6 bs.length c6])
        have D56 := hid ((D5.out.keep F6 N5.out.1).keep hF6 (not_no _))
        have O56 := hid ((O5.out.keep F6 N5.out.2).keep hF6 (fun k _ => not_no k))
        have Y6 := hid (HY.out.1.keep S6.out.fr (fun k _ => not_no k))
        clear O6 I6 F6 G6 hF6 S5 O5 D5
        obtain ⟨a0, a1, a2, af⟩ := D56.out.three
        obtain ⟨b0', b1', b2', bf⟩ := D6.out.three
        go_wp2_with fail
        refine (same_yes _ _ bs _ O56.out.rd Y6.out).mono ?_
        rintro e wx ⟨rfl, rfl⟩
        go_wp2_with fail
        refine (same_yes _ _ bs _ O6'.out.rd Y6.out).mono ?_
        rintro e wx ⟨rfl, rfl⟩
        go_wp2_with fail
        refine (awake_c _).mono ?_
        rintro e w8 ⟨rfl, B⟩
        have F8 := hid (S6.out.fr.fresh_no B)
        clear B
        go_wp2_with fail
        go_ret
        exact ⟨rfl, F8.out⟩
end Go.Proofs.Ytjgcibjodiefkaa
