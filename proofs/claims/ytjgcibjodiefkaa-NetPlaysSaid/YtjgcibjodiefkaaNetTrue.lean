import Derived.Test.YtjgcibjodiefkaaNetBack
import Derived.Test.YtjgcibjodiefkaaOpsE
import Derived.BigQuiet
/-! NetTrue: what is taken was sent, as often as it was sent and copied at most; those that are left stay in order. -/
namespace Go.Proofs.Ytjgcibjodiefkaa
open Go.RowKit
set_option linter.unusedVariables false
set_option linter.unusedSimpArgs false

/-- a list of datagrams of the statement's own, its bytes too -/
structure Fly (w0 w : World) (F : Nat → Prop) (v : Value) (m : List Gr) : Prop where
  own : Own 29 3 w v m.length (rows Gr.cells m)
  new : ∀ k, Of v k → w0.heap.size ≤ k
  sep : ∀ k, Of v k → ¬ F k
  data : ∀ p ∈ m, OwnB 5 w p.v p.b ∧ ∀ k, Of p.v k → w0.heap.size ≤ k ∧ ¬ F k
section
variable {w0 w w1 w2 : World} {F F2 : Nat → Prop} {v v2 : Value} {m : List Gr}
theorem Fly.keep (h : Fly w0 w F v m) (hf : Fr No w w1) : Fly w0 w1 F v m := ⟨h.own.keep hf (fun k _ => not_no k), h.new, h.sep, fun p hp => ⟨(h.data p hp).1.keep hf (fun k _ => not_no k), (h.data p hp).2⟩⟩
theorem Fly.turn (h : Fly w0 w F v m) (hf : Fr F w w1) (hg : ∀ k, F2 k → F k ∨ w.heap.size ≤ k) : Fly w0 w1 F2 v m :=
  ⟨h.own.keep hf h.sep, h.new, fun k hk h2 => by
    rcases hg k h2 with h3 | h3
    · exact h.sep k hk h3
    · have := h.own.lt k hk; omega, fun p hp => ⟨(h.data p hp).1.keep hf (fun k hk => ((h.data p hp).2 k hk).2), fun k hk => ⟨((h.data p hp).2 k hk).1, fun h2 => by
    rcases hg k h2 with h3 | h3
    · exact ((h.data p hp).2 k hk).2 h3
    · have := (h.data p hp).1.lt k hk; omega⟩⟩⟩
theorem Fly.rd (h : Fly w0 w F v m) : Rd 3 w v m.length (rows Gr.cells m) := h.own.rd
theorem Fly.bytes (h : Fly w0 w F v m) : ∀ p ∈ m, RdB w p.v p.b := fun p hp => (h.data p hp).1.rd
theorem Fly.isl (h : Fly w0 w F v m) : ∀ p ∈ m, Isl p := fun p hp => by
  obtain ⟨A', c', e, _⟩ := (h.data p hp).1.slice
  exact ⟨_, _, _, e⟩
/-- the list grows by one; its row lies where it lay, or in a new block -/
theorem Fly.push {p : Gr} (h : Fly w0 w F v m) (hw0 : w0.heap.size ≤ w.heap.size) (hlt : ∀ k, F k → k < w.heap.size) (hf : Fr No w w1) (hf2 : Fr (Of v) w1 w2) (ho : Own 29 3 w2 v2 (m.length + 1) (rows Gr.cells m ++ p.cells)) (hg : ∀ k, Of v2 k → Of v k ∨ k = w1.heap.size) (hp : OwnB 5 w1 p.v p.b ∧ ∀ k, Of p.v k → w0.heap.size ≤ k ∧ ¬ F k) : Fly w0 w2 F v2 (m ++ [p]) := by
  have h1 := h.keep hf
  have hs := hf.size
  refine ⟨by rw [List.length_append, rows_append, rows_one]; exact ho, fun k hk => ?_, fun k hk hF => ?_, fun q hq => ?_⟩
  · rcases hg k hk with h2 | rfl
    · exact h.new k h2
    · omega
  · rcases hg k hk with h2 | rfl
    · exact h.sep k h2 hF
    · have := hlt _ hF; omega
  · rcases List.mem_append.1 hq with hq | hq
    · exact ⟨(h1.data q hq).1.keep hf2 (own_apart (h1.data q hq).1 h1.own (by decide)), (h1.data q hq).2⟩
    · rw [List.mem_singleton.1 hq]
      exact ⟨hp.1.keep hf2 (own_apart hp.1 h1.own (by decide)), hp.2⟩
end
theorem pick_q (kind n : Int) (h1 : Is64 kind) (h2 : Is64 n) : ∀ (x : Int) (w : World), (x = kind ∨ x = n) → Calls Try.prog 25 #[.int .i64 x, .int .i64 3] w fun e w' => e = .returned (.int .i64 (x % 3)) ∧ w' = w := by
  intro x w h
  rcases h with rfl | rfl
  · exact pick_c _ 3 h1.1 h1.2 (by omega) (by omega) w
  · exact pick_c _ 3 h2.1 h2.2 (by omega) (by omega) w
theorem pick_qq (kind n : Int) (h1 : Is64 kind) (h2 : Is64 n) : ∀ (x : Int) (w : World), (x = kind ∨ x = n) → Calls Try.prog 25 #[.int .i64 x, .int .i64 3] w fun e w' => e = .returned (.int .i64 (x % 3)) ∧ ∃ n, w' = w.drewN n :=
  fun x w h => (pick_q kind n h1 h2 x w h).mono fun e w' h => ⟨h.1, 0, h.2⟩
theorem Blk.fives {w : World} {g : Nat} {t : TypeId} {a b c d e : Value} (h : Blk w g t #[a, b, c, d, e]) :
    w.cell? ⟨g, 0, none⟩ = some a ∧ w.cell? ⟨g, 1, none⟩ = some b ∧ w.cell? ⟨g, 2, none⟩ = some c ∧ w.cell? ⟨g, 3, none⟩ = some d ∧ w.cell? ⟨g, 4, none⟩ = some e ∧ ∀ i, w.frozen? ⟨g, i, none⟩ = false :=
  ⟨h.cell 0, h.cell 1, h.cell 2, h.cell 3, h.cell 4, h.frozen⟩


set_option maxRecDepth 100000 in
set_option maxHeartbeats 1000000 in
theorem netTrue_c (y : Value) (os : List OpE) (w : World) (hy : RdE w y os) :
    Calls Try.prog 6 #[y] w (RetT w) := by
  obtain ⟨A1, c1, rfl, q1, _⟩ := hy.1.slice_
  have HY := hid hy
  clear hy
  go_enter Try.func6, Try.ntmps6
  go_wp2_with fail
  refine (new_c 3 (by omega) (by omega) _).mono ?_
  rintro e w1 ⟨g, rfl, I, F, hg⟩
  have S1 := hid (StN.start I F hg)
  clear I F hg
  go_wp2_with fail
  go_loopg [5, 6] 60 (fun q v5 v6 w' => ∃ (i : Nat) (F : Nat → Prop) (m : List Gr), v6 = .int .i64 i ∧ i ≤ 60 ∧ q = 60 - i ∧ Hid (m.length ≤ i) ∧ Hid (StN w w' g F 3 (m.map Gr.abs)) ∧ Hid (Fly w w' F v5 m))
  case atStart => exact ⟨0, _, [], rfl, by omega, rfl, by simp [Hid], S1, ⟨Own.nil _ _ _, fun k hk => absurd hk Of_none, fun k hk => absurd hk Of_none, by simp⟩⟩
  case round =>
    clear S1
    obtain ⟨i, F, m, rfl, hi, hq, HM, HS, HL⟩ := hrel
    have HQ := hid hq
    clear hq
    obtain ⟨A5, c5, rfl, hc5, hm5⟩ := HL.out.own.slice
    by_cases d1 : i < os.length ∧ i < 60
    · obtain ⟨d1, d2⟩ := d1
      have d3 : (i : Int) < os.length := by omega
      have d4 : (i : Int) < 60 := by omega
      obtain ⟨b, off, kind, a, z, ix, A', c', ys, rfl, hz, k0, k1, k2, k3, k4, hok⟩ := (HY.out.keep HS.out.fr).at_ d1
      obtain ⟨hin, b0, b1, b2, b3⟩ := hok
      have hF7 : Fr No wr (wr.alloc (.cells #[.int .i64 kind, .int .i64 a, .int .i64 z, .int .i64 ix, .slice A' ys.length c'] 44)) := (Fr.refl No wr).alloc _
      have D7 := hid (Blk.new wr 44 #[.int .i64 kind, .int .i64 a, .int .i64 z, .int .i64 ix, .slice A' ys.length c'])
      have S7 := hid (HS.out.keep hF7)
      have L7 := hid (HL.out.keep hF7)
      have Y7 := hid (hin.1.keep hF7 (fun k _ => not_no k))
      have HIN0 := hid (HY.out.2 _ (List.mem_of_getElem? hz)).1
      have N7 := hid (show ¬ F wr.heap.size from fun h => by have := HS.out.n.lt _ h; omega)
      obtain ⟨a0, a1, a2, a3, a4, af⟩ := D7.out.fives
      by_cases hc100 : ys.length ≤ 100
      · have c6 : (ys.length : Int) ≤ 100 := by omega
        have PK := hid (pick_qq a z b1 b2)
        have PI := hid (pick_c ix m.length b3.1 b3.2)
        have m1 := Int.emod_nonneg a (show (3 : Int) ≠ 0 by omega)
        have m2 := Int.emod_lt_of_pos a (show (0 : Int) < 3 by omega)
        have m3 := Int.emod_nonneg z (show (3 : Int) ≠ 0 by omega)
        have m4 := Int.emod_lt_of_pos z (show (0 : Int) < 3 by omega)
        have M1 := hid m1
        have M2 := hid m2
        have M3 := hid m3
        have M4 := hid m4
        clear m1 m2 m3 m4 hin b0 b1 b2 b3 hz hF7
        have hm60 := HM.out
        go_wp2_with fail
        go_quiet ((first | (go_at_call 25; refine Calls.quiet_of (PK.out _ _ ?_); (first | exact .inl rfl | exact .inr rfl))))
        have S9 := hid (S7.out.keep ((Fr.refl No _).drewN nq))
        have L9 := hid (L7.out.keep ((Fr.refl No _).drewN nq))
        have D9 := hid (D7.out.drewN nq)
        have M9 := hid (show w.heap.size ≤ wr.heap.size from HS.out.fr.size)
        clear S7 L7 Y7 D7 a0 a1 a2 a3 a4 af k0 k1 k2 k3 k4
        generalize (wr.alloc (.cells #[.int .i64 kind, .int .i64 a, .int .i64 z, .int .i64 ix, .slice A' ys.length c'] 44)).drewN nq = w9 at S9 L9 D9 ⊢
        generalize a % 3 = p1 at M1 M2 ⊢
        generalize z % 3 = p2 at M3 M4 ⊢
        obtain ⟨a0, a1, a2, a3, a4, af⟩ := D9.out.fives
        have HLEN := hid (show (m.map Gr.abs).length < 4096 by rw [List.length_map]; omega)
        by_cases cm : m.length = 0
        · by_cases ck : kind = 4 ∨ kind = 6
          · have hm0 : m = [] := List.eq_nil_of_length_eq_zero cm
            subst hm0
            clear cm
            rcases ck with rfl | rfl
            all_goals
            go_wp2_with fail
            refine (take_c S9.out.n 0 ((0, 0, []), false) rfl [] rfl).mono ?_
            rintro e w10 ⟨v10, rfl, O10, I10, F10, G10⟩
            replace O10 : OwnB 5 w10 v10 [] := O10
            obtain ⟨A10, c10, rfl, hc10⟩ := O10.slice
            have hF8 : Fr No w10 (w10.alloc (.cells #[.int .i64 0, .int .i64 0, .slice A10 0 c10] 29)) := (Fr.refl No w10).alloc _
            have S8 := hid ((S9.out.same I10 F10).keep hF8)
            have L8 := hid ((L9.out.turn F10 (fun k hk => .inl hk)).keep hF8)
            clear O10 I10 F10 G10 hF8 S9 L9 D9 a0 a1 a2 a3 a4 af
            go_wp2_with fail
            go_roundg (60 - (i + 1))
            case measure => have := HQ.out; omega
            case rel => exact ⟨i + 1, F, [], by go_num, by omega, rfl, by simp [Hid], S8, L8⟩
          · have e4 : (kind == 4) = false := by rw [beq_eq_false_iff_ne]; omega
            have e6 : (kind == 6) = false := by rw [beq_eq_false_iff_ne]; omega
            have cm' : (m.length : Int) ≤ 0 := by omega
            clear ck cm
            by_cases c5k : kind = 5
            · have e5 : (kind == 5) = true := by rw [beq_iff_eq]; omega
              clear c5k
              go_wp2_with fail
              refine (send_c S9.out.n p1 p2 _ ys (HIN0.out.1.keep S9.out.fr (fun k _ => not_no k)) (by omega) (m.map Gr.abs ++ [(p1, p2, ys)], 0) (send_ok ⟨M1.out, M2.out⟩ ⟨M3.out, M4.out⟩ (by omega) HLEN.out)).mono ?_
              intro e w10 hr
              obtain ⟨F10, rfl, S', hF, hG⟩ := S9.out.send' (Fr.refl No _) hr
              have S10 := hid (show StN w w10 g F10 3 (m.map Gr.abs ++ [(p1, p2, ys)]) from S')
              have L10 := hid (L9.out.turn hF hG)
              have D10 := hid (D9.out.keep hF N7.out)
              clear S' hr hF hG S9 L9 D9 a0 a1 a2 a3 a4 af
              obtain ⟨a0, a1, a2, a3, a4, af⟩ := D10.out.fives
              go_wp2_with fail
              refine (copy_c _ ys _ (HIN0.out.1.keep S10.out.fr (fun k _ => not_no k)) (by omega)).mono ?_
              rintro e w11 ⟨v11, rfl, O, F', G'⟩
              obtain ⟨A11, c11, rfl, hc11⟩ := O.slice
              have hF12 : Fr No w10 (w11.alloc (.cells #[.int .i64 p1, .int .i64 p2, .slice A11 ys.length c11] 29)) := F'.alloc _
              have O12 := hid (O.alloc (.cells #[.int .i64 p1, .int .i64 p2, .slice A11 ys.length c11] 29))
              have S12 := hid (S10.out.keep hF12)
              have NEW := hid (show ∀ k, Of (.slice A11 ys.length c11) k → w.heap.size ≤ k ∧ ¬ F10 k from fun k hk => by
                rcases G' k hk with h | h
                · exact absurd h (not_no k)
                · exact ⟨Nat.le_trans S10.out.fr.size h, fun hF => by have := S10.out.n.lt _ hF; omega⟩)
              have OO := hid ((L10.out.keep hF12).own)
              have HF12 := hid hF12
              clear O F' G' hF12 D10 a0 a1 a2 a3 a4 af
              go_wp2_with (at_builtin; refine wpl_app _ rfl (.tmp 64) (.tmp 71) 38 rfl 29 _ 3 40 Try.underlying38 infoG rfl (.slice A5 m.length c5) m.length (rows Gr.cells m) rfl OO.out (.slice (some ⟨w11.heap.size, 0, none⟩) 1 1) 1 (Gr.cells ⟨p1, p2, .slice A11 ys.length c11, ys⟩) rfl (Rd.lit1 w11 29 #[.int .i64 p1, .int .i64 p2, .slice A11 ys.length c11] 3 rfl) (by intro u hu; simp only [Gr.cells, List.mem_cons, List.not_mem_nil, or_false] at hu; rcases hu with rfl | rfl | rfl <;> rfl) (by simp only [maxLen]; omega) (by omega) ?_; intro v13 w13 o13 f13 g13)
              have L13 := hid (L10.out.push (p := ⟨p1, p2, .slice A11 ys.length c11, ys⟩) S10.out.fr.size S10.out.n.lt HF12.out f13 o13 g13 ⟨O12.out, NEW.out⟩)
              have S13 := hid (show StN w w13 g F10 3 ((m ++ [(⟨p1, p2, .slice A11 ys.length c11, ys⟩ : Gr)]).map Gr.abs) from by
                rw [List.map_append]
                exact S12.out.keepS f13 (fun k hk h => L10.out.sep k h hk) (fun k h => L10.out.new k h))
              obtain ⟨A13, c13, rfl, hc13, hm13⟩ := L13.out.own.slice
              rw [List.length_append, List.length_singleton] at hc13 L13
              clear o13 f13 g13 OO O12 S12 NEW HF12 L10 S10
              rw [List.length_append, List.length_singleton]

              go_wp2_with fail
              refine (flying_c S13.out.n).mono ?_
              rintro e wy ⟨rfl, rfl⟩
              rw [List.length_map, List.length_append, List.length_singleton]
              go_wp2_with fail
              go_roundg (60 - (i + 1))
              case measure => have := HQ.out; omega
              case rel => exact ⟨i + 1, F10, m ++ [⟨p1, p2, .slice A11 ys.length c11, ys⟩], by go_num, by omega, rfl, by unfold Hid; simp; omega, S13, L13⟩
            · have e5 : (kind == 5) = false := by rw [beq_eq_false_iff_ne]; omega
              clear c5k
              go_wp2_with fail
              refine (send_c S9.out.n p1 p2 _ ys (HIN0.out.1.keep S9.out.fr (fun k _ => not_no k)) (by omega) (m.map Gr.abs ++ [(p1, p2, ys)], 0) (send_ok ⟨M1.out, M2.out⟩ ⟨M3.out, M4.out⟩ (by omega) HLEN.out)).mono ?_
              intro e w10 hr
              obtain ⟨F10, rfl, S', hF, hG⟩ := S9.out.send' (Fr.refl No _) hr
              have S10 := hid (show StN w w10 g F10 3 (m.map Gr.abs ++ [(p1, p2, ys)]) from S')
              have L10 := hid (L9.out.turn hF hG)
              have D10 := hid (D9.out.keep hF N7.out)
              clear S' hr hF hG S9 L9 D9 a0 a1 a2 a3 a4 af
              obtain ⟨a0, a1, a2, a3, a4, af⟩ := D10.out.fives
              go_wp2_with fail
              refine (copy_c _ ys _ (HIN0.out.1.keep S10.out.fr (fun k _ => not_no k)) (by omega)).mono ?_
              rintro e w11 ⟨v11, rfl, O, F', G'⟩
              obtain ⟨A11, c11, rfl, hc11⟩ := O.slice
              have hF12 : Fr No w10 (w11.alloc (.cells #[.int .i64 p1, .int .i64 p2, .slice A11 ys.length c11] 29)) := F'.alloc _
              have O12 := hid (O.alloc (.cells #[.int .i64 p1, .int .i64 p2, .slice A11 ys.length c11] 29))
              have S12 := hid (S10.out.keep hF12)
              have NEW := hid (show ∀ k, Of (.slice A11 ys.length c11) k → w.heap.size ≤ k ∧ ¬ F10 k from fun k hk => by
                rcases G' k hk with h | h
                · exact absurd h (not_no k)
                · exact ⟨Nat.le_trans S10.out.fr.size h, fun hF => by have := S10.out.n.lt _ hF; omega⟩)
              have OO := hid ((L10.out.keep hF12).own)
              have HF12 := hid hF12
              clear O F' G' hF12 D10 a0 a1 a2 a3 a4 af
              go_wp2_with (at_builtin; refine wpl_app _ rfl (.tmp 64) (.tmp 71) 38 rfl 29 _ 3 40 Try.underlying38 infoG rfl (.slice A5 m.length c5) m.length (rows Gr.cells m) rfl OO.out (.slice (some ⟨w11.heap.size, 0, none⟩) 1 1) 1 (Gr.cells ⟨p1, p2, .slice A11 ys.length c11, ys⟩) rfl (Rd.lit1 w11 29 #[.int .i64 p1, .int .i64 p2, .slice A11 ys.length c11] 3 rfl) (by intro u hu; simp only [Gr.cells, List.mem_cons, List.not_mem_nil, or_false] at hu; rcases hu with rfl | rfl | rfl <;> rfl) (by simp only [maxLen]; omega) (by omega) ?_; intro v13 w13 o13 f13 g13)
              have L13 := hid (L10.out.push (p := ⟨p1, p2, .slice A11 ys.length c11, ys⟩) S10.out.fr.size S10.out.n.lt HF12.out f13 o13 g13 ⟨O12.out, NEW.out⟩)
              have S13 := hid (show StN w w13 g F10 3 ((m ++ [(⟨p1, p2, .slice A11 ys.length c11, ys⟩ : Gr)]).map Gr.abs) from by
                rw [List.map_append]
                exact S12.out.keepS f13 (fun k hk h => L10.out.sep k h hk) (fun k h => L10.out.new k h))
              obtain ⟨A13, c13, rfl, hc13, hm13⟩ := L13.out.own.slice
              rw [List.length_append, List.length_singleton] at hc13 L13
              clear o13 f13 g13 OO O12 S12 NEW HF12 L10 S10
              rw [List.length_append, List.length_singleton]

              go_wp2_with fail
              refine (flying_c S13.out.n).mono ?_
              rintro e wy ⟨rfl, rfl⟩
              rw [List.length_map, List.length_append, List.length_singleton]
              go_wp2_with fail
              go_roundg (60 - (i + 1))
              case measure => have := HQ.out; omega
              case rel => exact ⟨i + 1, F10, m ++ [⟨p1, p2, .slice A11 ys.length c11, ys⟩], by go_num, by omega, rfl, by unfold Hid; simp; omega, S13, L13⟩
        · have c0' : (0 : Int) < m.length := by omega
          have hk0 := Int.emod_nonneg ix (show (m.length : Int) ≠ 0 by omega)
          have hk1 := Int.emod_lt_of_pos ix c0'
          obtain ⟨k, hk⟩ := Int.eq_ofNat_of_zero_le hk0
          have HKK := hid hk
          rw [hk] at hk1
          replace hk1 : k < m.length := by omega
          clear hk hk0 cm
          obtain ⟨p, hp⟩ : ∃ p, m[k]? = some p := ⟨m[k], by simp [hk1]⟩
          have hpL : (m.map Gr.abs)[k]? = some p.abs := by rw [List.getElem?_map, hp]; rfl
          have hokp := S9.out.n.ok p.abs (List.mem_of_getElem? hpL)
          have HCP := hid (copy_ok (nodes := 3) hpL hokp.1 hokp.2.1 hokp.2.2 HLEN.out)
          have HP := hid hp
          have HPL := hid hpL
          have hwk : IntKind.i64.wrap ((k : Int) + 1) = ((k + 1 : Nat) : Int) := by rw [IntKind.wrap_i64]; omega
          have hkn : decide ((k : Int) < 0) = false := by simp
          clear hp hpL hokp
          go_wp2_with fail
          refine (PI.out (by omega) (by omega) _).mono ?_
          rintro e wz ⟨rfl, rfl⟩
          rw [HKK.out]
          by_cases ck4 : kind = 4
          · subst ck4
            go_wp2_with fail
            obtain ⟨L', hL'⟩ : ∃ L', (m.map Gr.abs).eraseIdx k = L' := ⟨_, rfl⟩
            refine (take_c S9.out.n k (p.abs, true) (look_ok HPL.out) L' (by unfold takeL; rw [if_pos (by rw [List.length_map]; omega)]; exact hL')).mono ?_
            have HL' := hid hL'
            clear hL'
            rintro e w10 ⟨v10, rfl, O10, I10, F10, G10⟩
            replace O10 : OwnB 5 w10 v10 p.b := O10
            obtain ⟨A10, c10, rfl, hc10⟩ := O10.slice
            have hF8 : Fr No w10 (w10.alloc (.cells #[.int .i64 p.a, .int .i64 p.z, .slice A10 p.b.length c10] 29)) := (Fr.refl No w10).alloc _
            have S8 := hid ((S9.out.same I10 F10).keep hF8)
            have L8 := hid ((L9.out.turn F10 (fun k hk => .inl hk)).keep hF8)
            have O8 := hid (O10.keep hF8 (fun k _ => not_no k))
            have D8 := hid (Blk.new w10 29 #[.int .i64 p.a, .int .i64 p.z, .slice A10 p.b.length c10])
            obtain ⟨b6, off6, c6', p6, B6, d6, hv, hc', hp', hpm, hpv, r0, r1, r2⟩ := rdG_at L8.out.rd L8.out.bytes hk1
            have e1 : p6 = p := by rw [HP.out] at hp'; exact (Option.some.inj hp').symm
            subst e1
            injection hv with hv _ hcc
            subst hv hcc
            have P8 := hid (show RdB (w10.alloc (.cells #[.int .i64 p6.a, .int .i64 p6.z, .slice A10 p6.b.length c10] 29)) (.slice B6 p6.b.length d6) p6.b from by rw [← hpv]; exact L8.out.bytes _ hpm)
            clear a0 a1 a2 a3 a4 af
            obtain ⟨a0, a1, a2, af⟩ := D8.out.three
            have hk1' : (k : Int) < m.length := by omega
            clear O10 I10 F10 G10 hF8 hp' hpm hpv S9 L9 D9
            unfold Gr.abs
            go_wp2_with fail
            have SD := hid (S8.out.keep ((Fr.refl No _).drew))
            have LD := hid (L8.out.keep ((Fr.refl No _).drew))
            go_region_held3 (fun w' => w'.cell? ⟨w10.heap.size, 0, none⟩ = some (.int .i64 p6.a) ∧ w'.cell? ⟨w10.heap.size, 1, none⟩ = some (.int .i64 p6.z) ∧ w'.cell? ⟨w10.heap.size, 2, none⟩ = some (.slice A10 p6.b.length c10) ∧ w'.cell? ⟨b6, off6 + k * 3, none⟩ = some (.int .i64 p6.a) ∧ w'.cell? ⟨b6, off6 + k * 3 + 1, none⟩ = some (.int .i64 p6.z) ∧ w'.cell? ⟨b6, off6 + k * 3 + 2, none⟩ = some (.slice B6 p6.b.length d6))
              (first
                | exact ⟨a0, a1, a2, r0, r1, r2⟩
                | exact ⟨HF11.out.cs a0, HF11.out.cs a1, HF11.out.cs a2, HF11.out.cs r0, HF11.out.cs r1, HF11.out.cs r2⟩)
              ((first
              | (go_at_call 24; refine (same_g _ p6.a p6.z p6.a p6.z _ _ p6.b p6.b (O8.out.rd.heap (by rfl)) (P8.out.heap (by rfl)) true (by simp)).mono ?_; rintro e w11 ⟨rfl, F11⟩; have HF11 := hid (show Fr No (w10.alloc (.cells #[.int .i64 p6.a, .int .i64 p6.z, .slice A10 p6.b.length c10] 29)).drew w11 from F11); have SE := hid (SD.out.keep HF11.out); have LE := hid (LD.out.keep HF11.out); clear F11)))
            clear S8 L8 O8 D8 P8 r0 r1 r2 a0 a1 a2 af SD LD HF11

            have q0 : (k : Int) ≤ m.length := by omega
            have q0' : k ≤ m.length := by omega
            have qa : (0 : Int) ≤ (k : Int) + 1 := by omega
            have qb : (k : Int) + 1 ≤ m.length := by omega
            have q1' : k + 1 ≤ m.length := by omega
            have q2 : k ≤ c5 := by omega
            have q3 : k + 1 ≤ c5 := by omega
            have HAD : Rd 3 w11.drew (.slice (some ⟨b6, off6, none⟩) m.length c5) m.length (rows Gr.cells m) := LE.out.rd.keep ((Fr.refl No _).drew) (fun k _ => not_no k)
            have HT := hid (show Rd 3 w11.drew (.slice (some ⟨b6, off6, none⟩) k c5) k (rows Gr.cells (m.take k)) from by have := HAD.take (m := k) (c' := c5) q0' q2; rwa [rows_take Gr.cells_length] at this)
            have HDR := hid (show Rd 3 w11.drew (.slice (if c5 = k + 1 then some ⟨b6, off6, none⟩ else (some ⟨b6, off6 + (k + 1) * 3, none⟩ : Option Addr)) (m.length - (k + 1)) (c5 - (k + 1))) (m.length - (k + 1)) (rows Gr.cells (m.drop (k + 1))) from by have := HAD.drop (m := k + 1) (c' := c5 - (k + 1)) q1' (by omega); rw [rows_drop Gr.cells_length, Option.map_some, add_off] at this; exact this)
            have HISL := hid LE.out.isl
            clear HAD
            go_wp2_with fail
            go_region_law ((first
              | (refine step_app _ (by rfl) (.tmp 114) (.tmp 117) 38 (by rfl) 29 _ 3 40 Try.underlying38 infoG (by rfl) (.slice none 0 0) 0 [] (by simp [Act.eval, Act.put]) (Own.nil _ _ _) (.slice (some ⟨b6, off6, none⟩) k c5) k (rows Gr.cells (m.take k)) (by simp [Act.eval, Act.put]) HT.out (rows_isl (fun p hp => HISL.out p (List.mem_of_mem_take hp))) (by simp only [maxLen]; omega) (by omega) ?_
                 intro v13 w13 o13 f13 g13
                 simp only [Nat.zero_add, List.nil_append] at o13
                 have O13 := hid o13
                 have F13 := hid (show Fr No w11.drew w13 from f13.mono (fun k _ h => absurd h Of_none))
                 have G13 := hid g13
                 clear o13 f13 g13
                 obtain ⟨A13, c13, rfl, hc13, hm13⟩ := O13.out.slice)
              | (refine step_app _ (by rfl) (.tmp 118) (.tmp 122) 38 (by rfl) 29 _ 3 40 Try.underlying38 infoG (by rfl) (.slice A13 k c13) k (rows Gr.cells (m.take k)) (by simp [Act.eval, Act.put]) O13.out (.slice (if c5 = k + 1 then some ⟨b6, off6, none⟩ else (some ⟨b6, off6 + (k + 1) * 3, none⟩ : Option Addr)) (m.length - (k + 1)) (c5 - (k + 1))) (m.length - (k + 1)) (rows Gr.cells (m.drop (k + 1))) (by simp [Act.eval, Act.put]) (HDR.out.keep F13.out (fun k _ => not_no k)) (rows_isl (fun p hp => HISL.out p (List.mem_of_mem_drop hp))) (by simp only [maxLen]; omega) (by omega) ?_
                 intro v14 w14 o14 f14 g14
                 have O14 := hid o14
                 have F14 := hid f14
                 have G14 := hid g14
                 clear o14 f14 g14
                 obtain ⟨A14, c14, rfl, hc14, hm14⟩ := O14.out.slice)))
            have FA := hid (show Fr No w11 w14 from
              (((Fr.refl No _).drew).fresh_no F13.out).fresh F14.out (fun k hk => by rcases G13.out k hk with h | h; exact absurd h Of_none; exact Nat.le_of_eq h.symm))
            have hrl : k + (m.length - (k + 1)) = (m.eraseIdx k).length := by rw [List.length_eraseIdx]; split <;> omega
            have hrr : rows Gr.cells (m.take k) ++ rows Gr.cells (m.drop (k + 1)) = rows Gr.cells (m.eraseIdx k) := by rw [← rows_append, List.eraseIdx_eq_take_drop_succ]
            have hrm : ∀ p ∈ m.eraseIdx k, p ∈ m := fun p hp => List.mem_of_mem_eraseIdx hp
            have hLr : L' = (m.eraseIdx k).map Gr.abs := by rw [← HL'.out]; simp [List.eraseIdx_eq_take_drop_succ]
            subst hLr
            have hr60 : (m.eraseIdx k).length ≤ i := by rw [← hrl]; omega
            rw [hrr, hrl] at O14
            rw [hrl] at G14 hc14 ⊢
            generalize m.eraseIdx k = r at HL' SE O14 G14 hrm hc14 hr60
            have LR := hid (show Fly w w14 F (.slice A14 r.length c14) r from by
              have hnew : ∀ q, Of (.slice A14 r.length c14) q → w11.heap.size ≤ q := fun q hq => by
                rcases G14.out q hq with h | h
                · rcases G13.out q h with h | h
                  · exact absurd h Of_none
                  · exact Nat.le_of_eq h.symm
                · rw [h]; exact F13.out.size
              exact ⟨O14.out, fun q hq => Nat.le_trans SE.out.fr.size (hnew q hq), fun q hq hF => by have := SE.out.n.lt _ hF; have := hnew q hq; omega, fun q hq => (LE.out.keep FA.out).data q (hrm q hq)⟩)
            have SR := hid (SE.out.keep FA.out)
            clear O13 O14 F13 F14 G13 G14 HT HDR HISL SE LE FA hrl hrr hrm hc14

            go_wp2_with fail
            all_goals
              refine (flying_c SR.out.n).mono ?_
              rintro e wy ⟨rfl, rfl⟩
              rw [List.length_map]
              go_wp2_with fail
              go_roundg (60 - (i + 1))
              case measure => have := HQ.out; omega
              case rel => exact ⟨i + 1, F, r, by go_num, by omega, rfl, by unfold Hid; omega, SR, LR⟩
          · have e4 : (kind == 4) = false := by rw [beq_eq_false_iff_ne]; omega
            by_cases ck6 : kind = 6
            · subst ck6
              go_wp2_with fail
              obtain ⟨L', hL'⟩ : ∃ L', (m.map Gr.abs).eraseIdx k = L' := ⟨_, rfl⟩
              refine (drop_c S9.out.n k true (by rw [look_ok HPL.out]) L' (by unfold takeL; rw [if_pos (by rw [List.length_map]; omega)]; exact hL')).mono ?_
              have HL' := hid hL'
              clear hL'
              rintro e w10 ⟨rfl, I10, F10⟩
              have SE := hid (S9.out.same I10 F10)
              have LE := hid (L9.out.turn F10 (fun k hk => .inl hk))
              clear I10 F10 S9 L9 D9 a0 a1 a2 a3 a4 af

              obtain ⟨b5, off5, c5', p', B', d', hv, hc', hp', hpm, hpv, -, -, -⟩ := rdG_at LE.out.rd LE.out.bytes hk1
              injection hv with hv _ hcc
              subst hv hcc
              clear hp' hpm hpv
              have q0 : (k : Int) ≤ m.length := by omega
              have q0' : k ≤ m.length := by omega
              have qa : (0 : Int) ≤ (k : Int) + 1 := by omega
              have qb : (k : Int) + 1 ≤ m.length := by omega
              have q1' : k + 1 ≤ m.length := by omega
              have q2 : k ≤ c5 := by omega
              have q3 : k + 1 ≤ c5 := by omega
              have HAD : Rd 3 w10.drew (.slice (some ⟨b5, off5, none⟩) m.length c5) m.length (rows Gr.cells m) := LE.out.rd.keep ((Fr.refl No _).drew) (fun k _ => not_no k)
              have HT := hid (show Rd 3 w10.drew (.slice (some ⟨b5, off5, none⟩) k c5) k (rows Gr.cells (m.take k)) from by have := HAD.take (m := k) (c' := c5) q0' q2; rwa [rows_take Gr.cells_length] at this)
              have HDR := hid (show Rd 3 w10.drew (.slice (if c5 = k + 1 then some ⟨b5, off5, none⟩ else (some ⟨b5, off5 + (k + 1) * 3, none⟩ : Option Addr)) (m.length - (k + 1)) (c5 - (k + 1))) (m.length - (k + 1)) (rows Gr.cells (m.drop (k + 1))) from by have := HAD.drop (m := k + 1) (c' := c5 - (k + 1)) q1' (by omega); rw [rows_drop Gr.cells_length, Option.map_some, add_off] at this; exact this)
              have HISL := hid LE.out.isl
              clear HAD
              go_wp2_with fail
              go_region_law ((first
                | (refine step_app _ (by rfl) (.tmp 114) (.tmp 117) 38 (by rfl) 29 _ 3 40 Try.underlying38 infoG (by rfl) (.slice none 0 0) 0 [] (by simp [Act.eval, Act.put]) (Own.nil _ _ _) (.slice (some ⟨b5, off5, none⟩) k c5) k (rows Gr.cells (m.take k)) (by simp [Act.eval, Act.put]) HT.out (rows_isl (fun p hp => HISL.out p (List.mem_of_mem_take hp))) (by simp only [maxLen]; omega) (by omega) ?_
                   intro v13 w13 o13 f13 g13
                   simp only [Nat.zero_add, List.nil_append] at o13
                   have O13 := hid o13
                   have F13 := hid (show Fr No w10.drew w13 from f13.mono (fun k _ h => absurd h Of_none))
                   have G13 := hid g13
                   clear o13 f13 g13
                   obtain ⟨A13, c13, rfl, hc13, hm13⟩ := O13.out.slice)
                | (refine step_app _ (by rfl) (.tmp 118) (.tmp 122) 38 (by rfl) 29 _ 3 40 Try.underlying38 infoG (by rfl) (.slice A13 k c13) k (rows Gr.cells (m.take k)) (by simp [Act.eval, Act.put]) O13.out (.slice (if c5 = k + 1 then some ⟨b5, off5, none⟩ else (some ⟨b5, off5 + (k + 1) * 3, none⟩ : Option Addr)) (m.length - (k + 1)) (c5 - (k + 1))) (m.length - (k + 1)) (rows Gr.cells (m.drop (k + 1))) (by simp [Act.eval, Act.put]) (HDR.out.keep F13.out (fun k _ => not_no k)) (rows_isl (fun p hp => HISL.out p (List.mem_of_mem_drop hp))) (by simp only [maxLen]; omega) (by omega) ?_
                   intro v14 w14 o14 f14 g14
                   have O14 := hid o14
                   have F14 := hid f14
                   have G14 := hid g14
                   clear o14 f14 g14
                   obtain ⟨A14, c14, rfl, hc14, hm14⟩ := O14.out.slice)))
              have FA := hid (show Fr No w10 w14 from
                (((Fr.refl No _).drew).fresh_no F13.out).fresh F14.out (fun k hk => by rcases G13.out k hk with h | h; exact absurd h Of_none; exact Nat.le_of_eq h.symm))
              have hrl : k + (m.length - (k + 1)) = (m.eraseIdx k).length := by rw [List.length_eraseIdx]; split <;> omega
              have hrr : rows Gr.cells (m.take k) ++ rows Gr.cells (m.drop (k + 1)) = rows Gr.cells (m.eraseIdx k) := by rw [← rows_append, List.eraseIdx_eq_take_drop_succ]
              have hrm : ∀ p ∈ m.eraseIdx k, p ∈ m := fun p hp => List.mem_of_mem_eraseIdx hp
              have hLr : L' = (m.eraseIdx k).map Gr.abs := by rw [← HL'.out]; simp [List.eraseIdx_eq_take_drop_succ]
              subst hLr
              have hr60 : (m.eraseIdx k).length ≤ i := by rw [← hrl]; omega
              rw [hrr, hrl] at O14
              rw [hrl] at G14 hc14 ⊢
              generalize m.eraseIdx k = r at HL' SE O14 G14 hrm hc14 hr60
              have LR := hid (show Fly w w14 F (.slice A14 r.length c14) r from by
                have hnew : ∀ q, Of (.slice A14 r.length c14) q → w10.heap.size ≤ q := fun q hq => by
                  rcases G14.out q hq with h | h
                  · rcases G13.out q h with h | h
                    · exact absurd h Of_none
                    · exact Nat.le_of_eq h.symm
                  · rw [h]; exact F13.out.size
                exact ⟨O14.out, fun q hq => Nat.le_trans SE.out.fr.size (hnew q hq), fun q hq hF => by have := SE.out.n.lt _ hF; have := hnew q hq; omega, fun q hq => (LE.out.keep FA.out).data q (hrm q hq)⟩)
              have SR := hid (SE.out.keep FA.out)
              clear O13 O14 F13 F14 G13 G14 HT HDR HISL SE LE FA hrl hrr hrm hc14

              go_wp2_with fail
              all_goals
                refine (flying_c SR.out.n).mono ?_
                rintro e wy ⟨rfl, rfl⟩
                rw [List.length_map]
                go_wp2_with fail
                go_roundg (60 - (i + 1))
                case measure => have := HQ.out; omega
                case rel => exact ⟨i + 1, F, r, by go_num, by omega, rfl, by unfold Hid; omega, SR, LR⟩
            · have e6 : (kind == 6) = false := by rw [beq_eq_false_iff_ne]; omega
              by_cases ck5 : kind = 5
              · subst ck5
                go_wp2_with fail
                refine (ncopy_c S9.out.n k _ HCP.out).mono ?_
                intro e w10 hr
                obtain ⟨F10, rfl, S', hF, hG⟩ := S9.out.send' (Fr.refl No _) hr
                have S10 := hid (show StN w w10 g F10 3 (m.map Gr.abs ++ [p.abs]) from S')
                have L10 := hid (L9.out.turn hF hG)
                have D10 := hid (D9.out.keep hF N7.out)
                clear S' hr hF hG S9 L9 D9 a0 a1 a2 a3 a4 af
                obtain ⟨b5, off5, c5', p', B', d', hv, hc', hp', hpm, hpv, r0, r1, r2⟩ := rdG_at L10.out.rd L10.out.bytes hk1
                have e1 : p' = p := by rw [HP.out] at hp'; exact (Option.some.inj hp').symm
                subst e1
                injection hv with hv _ hcc
                subst hv hcc
                have hF12 : Fr No w10 (w10.alloc (.cells #[.int .i64 p'.a, .int .i64 p'.z, .slice B' p'.b.length d'] 29)) := (Fr.refl No w10).alloc _
                have S12 := hid (S10.out.keep hF12)
                have PD := hid ((L10.out.keep hF12).data p' hpm)
                have OO := hid ((L10.out.keep hF12).own)
                have HM2 := hid (show (⟨p'.a, p'.z, .slice B' p'.b.length d', p'.b⟩ : Gr) = p' by rw [← hpv])
                have HF12 := hid hF12
                clear hp' hpm hpv hF12
                go_wp2_with (at_builtin; refine wpl_app _ rfl (.tmp 137) (.tmp 142) 38 rfl 29 _ 3 40 Try.underlying38 infoG rfl (.slice (some ⟨b5, off5, none⟩) m.length c5) m.length (rows Gr.cells m) rfl OO.out (.slice (some ⟨w10.heap.size, 0, none⟩) 1 1) 1 (Gr.cells ⟨p'.a, p'.z, .slice B' p'.b.length d', p'.b⟩) rfl (Rd.lit1 w10 29 #[.int .i64 p'.a, .int .i64 p'.z, .slice B' p'.b.length d'] 3 rfl) (by intro u hu; simp only [Gr.cells, List.mem_cons, List.not_mem_nil, or_false] at hu; rcases hu with rfl | rfl | rfl <;> rfl) (by simp only [maxLen]; omega) (by omega) ?_; intro v13 w13 o13 f13 g13)
                rw [HM2.out] at o13
                have L13 := hid (L10.out.push S10.out.fr.size S10.out.n.lt HF12.out f13 o13 g13 PD.out)
                have S13 := hid (show StN w w13 g F10 3 ((m ++ [p']).map Gr.abs) from by
                  rw [List.map_append]
                  exact S12.out.keepS f13 (fun k hk h => L10.out.sep k h hk) (fun k h => L10.out.new k h))
                obtain ⟨A13, c13, rfl, hc13, hm13⟩ := L13.out.own.slice
                rw [List.length_append, List.length_singleton] at hc13 L13
                clear o13 f13 g13 OO S12 PD HF12 L10 S10 r0 r1 r2 D10
                rw [List.length_append, List.length_singleton]

                go_wp2_with fail
                refine (flying_c S13.out.n).mono ?_
                rintro e wy ⟨rfl, rfl⟩
                rw [List.length_map, List.length_append, List.length_singleton]
                go_wp2_with fail
                go_roundg (60 - (i + 1))
                case measure => have := HQ.out; omega
                case rel => exact ⟨i + 1, F10, m ++ [p'], by go_num, by omega, rfl, by unfold Hid; simp; omega, S13, L13⟩
              · have e5 : (kind == 5) = false := by rw [beq_eq_false_iff_ne]; omega
                go_wp2_with fail
                refine (send_c S9.out.n p1 p2 _ ys (HIN0.out.1.keep S9.out.fr (fun k _ => not_no k)) (by omega) (m.map Gr.abs ++ [(p1, p2, ys)], 0) (send_ok ⟨M1.out, M2.out⟩ ⟨M3.out, M4.out⟩ (by omega) HLEN.out)).mono ?_
                intro e w10 hr
                obtain ⟨F10, rfl, S', hF, hG⟩ := S9.out.send' (Fr.refl No _) hr
                have S10 := hid (show StN w w10 g F10 3 (m.map Gr.abs ++ [(p1, p2, ys)]) from S')
                have L10 := hid (L9.out.turn hF hG)
                have D10 := hid (D9.out.keep hF N7.out)
                clear S' hr hF hG S9 L9 D9 a0 a1 a2 a3 a4 af
                obtain ⟨a0, a1, a2, a3, a4, af⟩ := D10.out.fives
                go_wp2_with fail
                refine (copy_c _ ys _ (HIN0.out.1.keep S10.out.fr (fun k _ => not_no k)) (by omega)).mono ?_
                rintro e w11 ⟨v11, rfl, O, F', G'⟩
                obtain ⟨A11, c11, rfl, hc11⟩ := O.slice
                have hF12 : Fr No w10 (w11.alloc (.cells #[.int .i64 p1, .int .i64 p2, .slice A11 ys.length c11] 29)) := F'.alloc _
                have O12 := hid (O.alloc (.cells #[.int .i64 p1, .int .i64 p2, .slice A11 ys.length c11] 29))
                have S12 := hid (S10.out.keep hF12)
                have NEW := hid (show ∀ k, Of (.slice A11 ys.length c11) k → w.heap.size ≤ k ∧ ¬ F10 k from fun k hk => by
                  rcases G' k hk with h | h
                  · exact absurd h (not_no k)
                  · exact ⟨Nat.le_trans S10.out.fr.size h, fun hF => by have := S10.out.n.lt _ hF; omega⟩)
                have OO := hid ((L10.out.keep hF12).own)
                have HF12 := hid hF12
                clear O F' G' hF12 D10 a0 a1 a2 a3 a4 af
                go_wp2_with (at_builtin; refine wpl_app _ rfl (.tmp 64) (.tmp 71) 38 rfl 29 _ 3 40 Try.underlying38 infoG rfl (.slice A5 m.length c5) m.length (rows Gr.cells m) rfl OO.out (.slice (some ⟨w11.heap.size, 0, none⟩) 1 1) 1 (Gr.cells ⟨p1, p2, .slice A11 ys.length c11, ys⟩) rfl (Rd.lit1 w11 29 #[.int .i64 p1, .int .i64 p2, .slice A11 ys.length c11] 3 rfl) (by intro u hu; simp only [Gr.cells, List.mem_cons, List.not_mem_nil, or_false] at hu; rcases hu with rfl | rfl | rfl <;> rfl) (by simp only [maxLen]; omega) (by omega) ?_; intro v13 w13 o13 f13 g13)
                have L13 := hid (L10.out.push (p := ⟨p1, p2, .slice A11 ys.length c11, ys⟩) S10.out.fr.size S10.out.n.lt HF12.out f13 o13 g13 ⟨O12.out, NEW.out⟩)
                have S13 := hid (show StN w w13 g F10 3 ((m ++ [(⟨p1, p2, .slice A11 ys.length c11, ys⟩ : Gr)]).map Gr.abs) from by
                  rw [List.map_append]
                  exact S12.out.keepS f13 (fun k hk h => L10.out.sep k h hk) (fun k h => L10.out.new k h))
                obtain ⟨A13, c13, rfl, hc13, hm13⟩ := L13.out.own.slice
                rw [List.length_append, List.length_singleton] at hc13 L13
                clear o13 f13 g13 OO O12 S12 NEW HF12 L10 S10
                rw [List.length_append, List.length_singleton]

                go_wp2_with fail
                refine (flying_c S13.out.n).mono ?_
                rintro e wy ⟨rfl, rfl⟩
                rw [List.length_map, List.length_append, List.length_singleton]
                go_wp2_with fail
                go_roundg (60 - (i + 1))
                case measure => have := HQ.out; omega
                case rel => exact ⟨i + 1, F10, m ++ [⟨p1, p2, .slice A11 ys.length c11, ys⟩], by go_num, by omega, rfl, by unfold Hid; simp; omega, S13, L13⟩
      · have c6 : 100 < (ys.length : Int) := by omega
        clear hin b0 b1 b2 b3 hz hF7
        go_wp2_with fail
        go_roundg (60 - (i + 1))
        case measure => have := HQ.out; omega
        case rel => exact ⟨i + 1, F, m, by go_num, by omega, rfl, by have := HM.out; unfold Hid; omega, S7, L7⟩
    · have hend : ((i : Int) < os.length ∧ ¬ (i : Int) < 60) ∨ ¬ (i : Int) < os.length := by omega
      have hm60 := HM.out
      clear d1
      rcases hend with ⟨he1, he2⟩ | he1
      · skip
        go_wp2_with fail
        go_loopg [16] m.length (fun q v16 w' => ∃ j : Nat, v16 = .int .i64 j ∧ j ≤ m.length ∧ q = m.length - j ∧ Hid (Fr No wr w'))
        case atStart => exact ⟨0, rfl, by omega, rfl, Fr.refl _ _⟩
        case round =>
          obtain ⟨j, rfl, hj, hq, HF⟩ := hrel
          have HQ2 := hid hq
          clear hq
          by_cases e1 : j < m.length
          · have e2 : (j : Int) < m.length := by omega
            have S3 := hid (HS.out.keep HF.out)
            have L3 := hid (HL.out.keep HF.out)
            obtain ⟨p, hp⟩ : ∃ p, m[j]? = some p := ⟨m[j], by simp [e1]⟩
            have hpL : (m.map Gr.abs)[j]? = some p.abs := by rw [List.getElem?_map, hp]; rfl
            have HP := hid hp
            have HPL := hid hpL
            clear hp hpL
            go_wp2_with fail
            refine (look_c S3.out.n j (p.abs, true) (look_ok HPL.out)).mono ?_
            rintro e w10 ⟨v10, rfl, O10, F10, G10⟩
            replace O10 : OwnB 5 w10 v10 p.b := O10
            obtain ⟨A10, c10, rfl, hc10⟩ := O10.slice
            have hF8 : Fr No _ (w10.alloc (.cells #[.int .i64 p.a, .int .i64 p.z, .slice A10 p.b.length c10] 29)) := F10.alloc _
            have F8 := hid (HF.out.fresh_no hF8)
            have L8 := hid (L3.out.keep hF8)
            have O8 := hid (O10.alloc (.cells #[.int .i64 p.a, .int .i64 p.z, .slice A10 p.b.length c10] 29))
            have D8 := hid (Blk.new w10 29 #[.int .i64 p.a, .int .i64 p.z, .slice A10 p.b.length c10])
            obtain ⟨b6, off6, c6', p6, B6, d6, hv, hc', hp', hpm, hpv, r0, r1, r2⟩ := rdG_at L8.out.rd L8.out.bytes e1
            have e1' : p6 = p := by rw [HP.out] at hp'; exact (Option.some.inj hp').symm
            subst e1'
            injection hv with hv _ hcc
            subst hv hcc
            have P8 := hid (show RdB (w10.alloc (.cells #[.int .i64 p6.a, .int .i64 p6.z, .slice A10 p6.b.length c10] 29)) (.slice B6 p6.b.length d6) p6.b from by rw [← hpv]; exact L8.out.bytes _ hpm)
            obtain ⟨a0, a1, a2, af⟩ := D8.out.three
            clear O10 F10 G10 hF8 hp' hpm hpv S3 L3
            unfold Gr.abs
            go_wp2_with fail
            go_region_held3 (fun w' => w'.cell? ⟨w10.heap.size, 0, none⟩ = some (.int .i64 p6.a) ∧ w'.cell? ⟨w10.heap.size, 1, none⟩ = some (.int .i64 p6.z) ∧ w'.cell? ⟨w10.heap.size, 2, none⟩ = some (.slice A10 p6.b.length c10) ∧ w'.cell? ⟨b6, off6 + j * 3, none⟩ = some (.int .i64 p6.a) ∧ w'.cell? ⟨b6, off6 + j * 3 + 1, none⟩ = some (.int .i64 p6.z) ∧ w'.cell? ⟨b6, off6 + j * 3 + 2, none⟩ = some (.slice B6 p6.b.length d6))
              (first
                | exact ⟨a0, a1, a2, r0, r1, r2⟩
                | exact ⟨HF11.out.cs a0, HF11.out.cs a1, HF11.out.cs a2, HF11.out.cs r0, HF11.out.cs r1, HF11.out.cs r2⟩)
              ((first
              | (go_at_call 24; refine (same_g _ p6.a p6.z p6.a p6.z _ _ p6.b p6.b (O8.out.rd.heap (by rfl)) (P8.out.heap (by rfl)) true (by simp)).mono ?_; rintro e w11 ⟨rfl, F11⟩; have HF11 := hid (show Fr No (w10.alloc (.cells #[.int .i64 p6.a, .int .i64 p6.z, .slice A10 p6.b.length c10] 29)).drew w11 from F11); have F9 := hid ((F8.out.drew).fresh_no F11); clear F11)))
            go_wp2_with fail
            go_roundg (m.length - (j + 1))
            case measure => have := HQ2.out; omega
            case rel => exact ⟨j + 1, by go_num, by omega, rfl, F9⟩
          · have e2 : j = m.length := by omega
            subst e2
            clear e1
            go_wp2_with fail
            refine (awake_c _).mono ?_
            rintro e w20 ⟨rfl, B⟩
            have F20 := hid ((HS.out.fr.fresh_no HF.out).fresh_no B)
            clear B
            go_wp2_with fail
            go_ret
            exact ⟨rfl, F20.out⟩
      · skip
        go_wp2_with fail
        go_loopg [16] m.length (fun q v16 w' => ∃ j : Nat, v16 = .int .i64 j ∧ j ≤ m.length ∧ q = m.length - j ∧ Hid (Fr No wr w'))
        case atStart => exact ⟨0, rfl, by omega, rfl, Fr.refl _ _⟩
        case round =>
          obtain ⟨j, rfl, hj, hq, HF⟩ := hrel
          have HQ2 := hid hq
          clear hq
          by_cases e1 : j < m.length
          · have e2 : (j : Int) < m.length := by omega
            have S3 := hid (HS.out.keep HF.out)
            have L3 := hid (HL.out.keep HF.out)
            obtain ⟨p, hp⟩ : ∃ p, m[j]? = some p := ⟨m[j], by simp [e1]⟩
            have hpL : (m.map Gr.abs)[j]? = some p.abs := by rw [List.getElem?_map, hp]; rfl
            have HP := hid hp
            have HPL := hid hpL
            clear hp hpL
            go_wp2_with fail
            refine (look_c S3.out.n j (p.abs, true) (look_ok HPL.out)).mono ?_
            rintro e w10 ⟨v10, rfl, O10, F10, G10⟩
            replace O10 : OwnB 5 w10 v10 p.b := O10
            obtain ⟨A10, c10, rfl, hc10⟩ := O10.slice
            have hF8 : Fr No _ (w10.alloc (.cells #[.int .i64 p.a, .int .i64 p.z, .slice A10 p.b.length c10] 29)) := F10.alloc _
            have F8 := hid (HF.out.fresh_no hF8)
            have L8 := hid (L3.out.keep hF8)
            have O8 := hid (O10.alloc (.cells #[.int .i64 p.a, .int .i64 p.z, .slice A10 p.b.length c10] 29))
            have D8 := hid (Blk.new w10 29 #[.int .i64 p.a, .int .i64 p.z, .slice A10 p.b.length c10])
            obtain ⟨b6, off6, c6', p6, B6, d6, hv, hc', hp', hpm, hpv, r0, r1, r2⟩ := rdG_at L8.out.rd L8.out.bytes e1
            have e1' : p6 = p := by rw [HP.out] at hp'; exact (Option.some.inj hp').symm
            subst e1'
            injection hv with hv _ hcc
            subst hv hcc
            have P8 := hid (show RdB (w10.alloc (.cells #[.int .i64 p6.a, .int .i64 p6.z, .slice A10 p6.b.length c10] 29)) (.slice B6 p6.b.length d6) p6.b from by rw [← hpv]; exact L8.out.bytes _ hpm)
            obtain ⟨a0, a1, a2, af⟩ := D8.out.three
            clear O10 F10 G10 hF8 hp' hpm hpv S3 L3
            unfold Gr.abs
            go_wp2_with fail
            go_region_held3 (fun w' => w'.cell? ⟨w10.heap.size, 0, none⟩ = some (.int .i64 p6.a) ∧ w'.cell? ⟨w10.heap.size, 1, none⟩ = some (.int .i64 p6.z) ∧ w'.cell? ⟨w10.heap.size, 2, none⟩ = some (.slice A10 p6.b.length c10) ∧ w'.cell? ⟨b6, off6 + j * 3, none⟩ = some (.int .i64 p6.a) ∧ w'.cell? ⟨b6, off6 + j * 3 + 1, none⟩ = some (.int .i64 p6.z) ∧ w'.cell? ⟨b6, off6 + j * 3 + 2, none⟩ = some (.slice B6 p6.b.length d6))
              (first
                | exact ⟨a0, a1, a2, r0, r1, r2⟩
                | exact ⟨HF11.out.cs a0, HF11.out.cs a1, HF11.out.cs a2, HF11.out.cs r0, HF11.out.cs r1, HF11.out.cs r2⟩)
              ((first
              | (go_at_call 24; refine (same_g _ p6.a p6.z p6.a p6.z _ _ p6.b p6.b (O8.out.rd.heap (by rfl)) (P8.out.heap (by rfl)) true (by simp)).mono ?_; rintro e w11 ⟨rfl, F11⟩; have HF11 := hid (show Fr No (w10.alloc (.cells #[.int .i64 p6.a, .int .i64 p6.z, .slice A10 p6.b.length c10] 29)).drew w11 from F11); have F9 := hid ((F8.out.drew).fresh_no F11); clear F11)))
            go_wp2_with fail
            go_roundg (m.length - (j + 1))
            case measure => have := HQ2.out; omega
            case rel => exact ⟨j + 1, by go_num, by omega, rfl, F9⟩
          · have e2 : j = m.length := by omega
            subst e2
            clear e1
            go_wp2_with fail
            refine (awake_c _).mono ?_
            rintro e w20 ⟨rfl, B⟩
            have F20 := hid ((HS.out.fr.fresh_no HF.out).fresh_no B)
            clear B
            go_wp2_with fail
            go_ret
            exact ⟨rfl, F20.out⟩
end Go.Proofs.Ytjgcibjodiefkaa
