import Derived.Test.YtkglndlmjleomaaBoxM
import Derived.Deep.QuietTactic
import Derived.BigQuiet
/-! BoxLists. -/
namespace Go.Proofs.Ytkglndlmjleomaa
open Go.RowKit
set_option linter.unusedVariables false
set_option linter.unusedSimpArgs false

/-- the boxes, and how many there are of each -/
structure Li (w0 w : World) (g mb : Nat) (P : List MailA) (cs : List (Int × Value)) (S : Nat → Prop) : Prop where
  bx : Bx w g 64 (ofP P) S
  cm : MapAt (Value.int .i64) w mb cs
  ct : Counts P cs
  fr : Fr No w0 w
  nS : ∀ x, S x → w0.heap.size ≤ x
  nm : w0.heap.size ≤ mb
  ap : ¬ S mb
  rng : ∀ m ∈ P, 0 ≤ m.to ∧ m.to < 10
  asc : P.Pairwise (fun a b => a.seq < b.seq)
  lt : ∀ m ∈ P, m.seq < P.length
section
variable {w0 w w' : World} {g mb : Nat} {P : List MailA} {cs : List (Int × Value)} {S S' : Nat → Prop}
theorem Li.keep (h : Li w0 w g mb P cs S) (hf : Fr No w w') : Li w0 w' g mb P cs S := ⟨h.bx.keep0 hf, h.cm.keep hf (not_no _), h.ct, h.fr.fresh_no hf, h.nS, h.nm, h.ap, h.rng, h.asc, h.lt⟩
def tens : List Int := [0, 1, 2, 3, 4, 5, 6, 7, 8, 9]
theorem Li.dom (h : Li w0 w g mb P cs S) (k : Int) (hk : ofP P k ≠ []) : k ∈ tens := by
  obtain ⟨m, hm, rfl⟩ := ofP_ne.1 hk
  obtain ⟨h1, h2⟩ := h.rng m hm
  have : m.to = 0 ∨ m.to = 1 ∨ m.to = 2 ∨ m.to = 3 ∨ m.to = 4 ∨ m.to = 5 ∨ m.to = 6 ∨ m.to = 7 ∨ m.to = 8 ∨ m.to = 9 := by omega
  unfold tens
  simp only [List.mem_cons, List.not_mem_nil, or_false]
  exact this
/-- one is put, and counted -/
theorem Li.put (h : Li w0 w g mb P cs S) (to : Int) (h1 : 0 ≤ to) (h2 : to < 10) {w1 w2 : World} (hb : Bx w1 g 64 (addF (ofP P) ⟨0, P.length, 0, to, ⟨#[]⟩⟩) S') (hf : Fr S w w1) (hm : More w S S')
    (hc : MapAt (Value.int .i64) w2 mb (putK to (.int .i64 ((ofP P to).length + 1)) cs)) (hf2 : Fr (fun x => x = mb) w1 w2) : Li w0 w2 g mb (P ++ [⟨0, P.length, 0, to, ⟨#[]⟩⟩]) (putK to (.int .i64 ((ofP P to).length + 1)) cs) S' := by
  have hap : ¬ S' mb := fun hx => (hm mb hx).elim h.ap (fun e => by
    obtain ⟨es, clock, hb, _⟩ := h.cm
    have := lt_of_some hb
    omega)
  have hn : (cs.map (·.1)).Nodup := h.cm.nodup
  refine ⟨?_, hc, h.ct.put hn ⟨0, P.length, 0, to, ⟨#[]⟩⟩, ?_, ?_, h.nm, hap, ?_, ?_, ?_⟩
  · rw [← ofP_add]; exact hb.keep hf2 (fun x hx e => hap (e ▸ hx))
  · exact (h.fr.fresh hf h.nS).fresh hf2 (fun x e => by rw [e]; exact h.nm)
  · exact fun x hx => (hm x hx).elim (h.nS x) (fun e => Nat.le_trans h.fr.size e)
  · intro m hm
    rcases List.mem_append.1 hm with hm | hm
    · exact h.rng m hm
    · rw [List.mem_singleton.1 hm]; exact ⟨h1, h2⟩
  · rw [List.pairwise_append]
    refine ⟨h.asc, List.pairwise_singleton _ _, fun a ha b hb => ?_⟩
    rw [List.mem_singleton.1 hb]
    exact h.lt a ha
  · intro m hm
    rw [List.length_append, List.length_singleton]
    rcases List.mem_append.1 hm with hm | hm
    · have := h.lt m hm; omega
    · rw [List.mem_singleton.1 hm]; show (P.length : Int) < _; omega
end
/-- while all is taken -/
structure Lo (w0 w : World) (g mb : Nat) (f : Int → List MailA) (cs : List (Int × Value)) (S : Nat → Prop) (v : Value) (K : List Int) : Prop where
  bx : Bx w g 64 f S
  cm : MapAt (Value.int .i64) w mb cs
  fr : Fr No w0 w
  nS : ∀ x, S x → w0.heap.size ≤ x
  ap : ¬ S mb
  row : Own 2 1 w v K.length (ints K)
  apv : ∀ x, Of v x → ¬ S x
section
variable {w0 w w' : World} {g mb : Nat} {f f' : Int → List MailA} {cs : List (Int × Value)} {S S' : Nat → Prop} {v : Value} {K : List Int}
theorem Lo.keep (h : Lo w0 w g mb f cs S v K) (hf : Fr No w w') : Lo w0 w' g mb f cs S v K := ⟨h.bx.keep0 hf, h.cm.keep hf (not_no _), h.fr.fresh_no hf, h.nS, h.ap, h.row.keep hf (fun x _ => not_no x), h.apv⟩
theorem Lo.turn (h : Lo w0 w g mb f cs S v K) (hb : Bx w' g 64 f' S') (hf : Fr S w w') (hm : More w S S') : Lo w0 w' g mb f' cs S' v K := by
  refine ⟨hb, h.cm.keep hf h.ap, h.fr.fresh hf h.nS, fun x hx => (hm x hx).elim (h.nS x) (fun e => Nat.le_trans h.fr.size e), fun hx => (hm mb hx).elim h.ap (fun e => ?_), h.row.keep hf h.apv, fun x hx hs => (hm x hs).elim (h.apv x hx) (fun e => ?_)⟩
  · obtain ⟨es, clock, hb, _⟩ := h.cm
    have := lt_of_some hb
    omega
  · have := h.row.lt x hx; omega
end
theorem look_int {w : World} {b : Nat} {cs : List (Int × Value)} (hm : MapAt (Value.int .i64) w b cs) (to : Int) : (Instr.lookup 49 (.map (some b)) (.int .i64 to) false).run Try.prog w = .ok ((getK to cs).getD (.int .i64 0)) w :=
  run_lookK (P := Try.prog) (T := 49) (K := 2) (E := 3) Try.underlying49 keyQ (z := .int .i64 0) (by kernel_rfl) hm to
theorem len_int {w : World} {b : Nat} {cs : List (Int × Value)} (hm : MapAt (Value.int .i64) w b cs) {ty : TypeId} : (Builtin.len_ #[49] ty #[.map (some b)]).run Try.prog w = .ok (.int .i64 cs.length) w :=
  run_lenK (P := Try.prog) (T := 49) (K := 2) (E := 3) Try.underlying49 hm

set_option maxRecDepth 100000 in
set_option maxHeartbeats 4000000 in
theorem boxLists_c (y : Value) (zs : List Int) (w : World) (hy : RdI w y zs) : Calls Try.prog 6 #[y] w (RetT w) := by
  obtain ⟨A1, c1, rfl, q1, _⟩ := hy.1
  have HY := hid hy
  clear hy
  have hmm := @run_makeMap Try.prog
  go_enter Try.func6, Try.ntmps6
  go_wp2_with fail
  refine (new_b _ 64 (by omega) (by omega)).mono ?_
  rintro e w1 ⟨g, S, rfl, b1, f1, s1⟩
  have HL0 := hid (show Li w (w1.alloc (.map #[] 0)) g w1.heap.size [] [] S from ⟨b1.keep0 ((Fr.refl No w1).alloc _), MapAt.new w1, Counts.nil, f1.alloc _, s1, f1.size, fun h => absurd (b1.lt _ h) (by omega), by simp, List.Pairwise.nil, by simp⟩)
  clear b1 f1 s1
  go_wp2_with fail
  generalize w1.heap.size = mb at HL0 ⊢
  clear hmm
  go_loopg [6] 60 (fun q v6 w' => ∃ (P : List MailA) (cs : List (Int × Value)) (S : Nat → Prop), v6 = .int .i64 P.length ∧ P.length ≤ 60 ∧ P.length ≤ zs.length ∧ q = 60 - P.length ∧ Hid (Li w w' g mb P cs S))
  case atStart => exact ⟨[], [], S, rfl, by simp, by simp, rfl, HL0⟩
  case round =>
    clear HL0
    obtain ⟨P, cs, S, rfl, hi, hiz, hq, HL⟩ := hrel
    have HQ := hid hq
    clear hq
    by_cases d1 : P.length < zs.length ∧ P.length < 60
    · obtain ⟨d1, d2⟩ := d1
      have d3 : (P.length : Int) < zs.length := by omega
      have d4 : (P.length : Int) < 60 := by omega
      obtain ⟨b, off, z, rfl, k0, hz, z1, z2⟩ := (HY.out.keep HL.out.fr).at_ d1
      have t1 := Int.emod_nonneg z (show (10 : Int) ≠ 0 by omega)
      have t2 := Int.emod_lt_of_pos z (show (0 : Int) < 10 by omega)
      go_wp2_with fail
      refine (pick_c z 10 z1 z2 (by omega) (by omega) _).mono ?_
      rintro e wx ⟨rfl, rfl⟩
      clear k0 hz z1 z2
      generalize z % 10 = to at t1 t2 ⊢
      go_wp2_with fail
      refine (put_b HL.out.bx ⟨0, P.length, 0, to, ⟨#[]⟩⟩ (by show 0 ≤ 255; decide) (by have := ofP_len P to; show ((ofP P to).length : Int) < 64; omega) (by omega)).mono ?_
      rintro e w3 ⟨S3, rfl, b3, f3, s3⟩
      have hc3 := HL.out.cm.keep f3 HL.out.ap
      have hlk := look_int hc3 to
      rw [HL.out.ct.get to] at hlk
      have hcl := ofP_len P to
      obtain ⟨w4, hup, M4, F4⟩ := run_putK (P := Try.prog) (T := 49) (K := 2) (E := 3) Try.underlying49 keyQ hc3 to (.int .i64 ((ofP P to).length + 1))
      have HL4 := hid (HL.out.put to t1 t2 b3 f3 s3 M4 F4)
      clear b3 f3 s3 hc3 M4 F4
      go_wp2_with fail
      go_roundg (60 - (P.length + 1))
      case measure => have := HQ.out; omega
      case rel => exact ⟨_, _, S3, by rw [List.length_append, List.length_singleton]; go_num, by rw [List.length_append, List.length_singleton]; omega, by rw [List.length_append, List.length_singleton]; omega, by rw [List.length_append, List.length_singleton], HL4⟩
    · have HMIN := hid (show min (zs.length : Int) 60 = (P.length : Int) by omega)
      rcases (show ¬ (P.length : Int) < zs.length ∨ ((P.length : Int) < zs.length ∧ ¬ (P.length : Int) < 60) by omega) with d4 | ⟨d4, d5⟩
      all_goals
        clear d1
        go_wp2_with fail
        have HPL := hid (show P.length ≤ 60 from hi)
        refine (all_b HL.out.bx tens HL.out.dom (by decide) (fun k => by have := ofP_len P k; have := HPL.out; omega)).mono ?_
        rintro e w2 ⟨v8, K1, rfl, o8, a8, m8, f8, n8⟩
        have HLEN := hid (show (allOf K1 (ofP P)).length = P.length from all_len K1 P (a8.imp (fun h => by omega)) (fun m hm => (m8 m.to).2 (ofP_ne.2 ⟨m, hm, rfl⟩)))
        have HASC := hid (all_asc HL.out.asc K1 a8)
        have HL2 := hid (HL.out.keep f8)
        have HO8 := hid o8
        clear o8 a8 m8 f8 n8 HL
        generalize allOf K1 (ofP P) = L at HLEN HASC HO8
        obtain ⟨A8, c8, rfl, hc8, _⟩ := HO8.out.slice
        have hll : L.length ≤ 60 := by have h1 := HLEN.out; have h2 := HPL.out; omega
        go_wp2_with fail
        go_loopg [54] L.length (fun q v54 w' => ∃ j : Nat, v54 = .int .i64 j ∧ j ≤ L.length ∧ q = L.length - j ∧ Hid (Fr No w2 w'))
        case atStart => exact ⟨0, rfl, Nat.zero_le _, rfl, Fr.refl No w2⟩
        case round =>
          obtain ⟨j, rfl, hj, hq, HF⟩ := hrel
          have HQ2 := hid hq
          clear hq
          by_cases d6 : j < L.length
          · have d7 : (j : Int) < L.length := by omega
            have hm : L[j]? = some L[j] := List.getElem?_eq_getElem d6
            have hpre : ∀ jp, j = jp + 1 → ∃ p, L[jp]? = some p ∧ Before p L[j] := fun jp e => ⟨L[jp], List.getElem?_eq_getElem (by omega), List.pairwise_iff_getElem.1 HASC.out jp j (by omega) d6 (by omega)⟩
            generalize L[j] = m at hm hpre
            have HM := hid hm
            obtain ⟨ga, rfl, _, _, m0, m1, m2, m3, m4, m5⟩ := mail_at (HO8.out.keep HF.out (fun x _ => not_no x)) hm
            obtain ⟨a, by0, c, d, t⟩ := m
            dsimp only at m0 m1 m2 m3 m4 m5
            clear hm
            rcases Nat.eq_zero_or_pos j with e0 | e0
            · subst e0
              clear hpre
              go_wp2_with fail
              go_quiet (fail)
              have HF3 := hid ((HF.out.alloc (.cells #[.int .i64 a, .int .i64 by0, .int .i64 c, .int .i64 d, .string t, .slice none 0 0] 30)).drewN nq)
              go_wp2_with fail
              go_roundg (L.length - 1)
              case measure => have := HQ2.out; omega
              case rel => exact ⟨1, by go_num, by omega, rfl, HF3⟩
            · obtain ⟨jp, rfl⟩ : ∃ jp, j = jp + 1 := ⟨j - 1, by omega⟩
              obtain ⟨p, hp, hb⟩ := hpre jp rfl
              clear hpre e0
              obtain ⟨gb, hgb, _, _, _, p1, _, p3, _, _⟩ := mail_at (HO8.out.keep (HF.out.alloc (.cells #[.int .i64 a, .int .i64 by0, .int .i64 c, .int .i64 d, .string t, .slice none 0 0] 30)) (fun x _ => not_no x)) hp
              injection hgb with hgb
              injection hgb with hgb
              subst hgb
              have hx := Blk.new wr 30 #[.int .i64 a, .int .i64 by0, .int .i64 c, .int .i64 d, .string t, .slice none 0 0]
              have x1 := hx.cell 1
              have x3 := hx.cell 3
              clear hx
              obtain ⟨a', by', c', d', t'⟩ := p
              dsimp only at p1 p3
              have HB := hid hb
              have e1 : (0 : Int) < (jp : Int) + 1 := by omega
              have e2 : (jp : Int) < L.length := by omega
              clear hb
              rcases HB.out with h1 | ⟨h1, h2⟩
              · replace h1 : d' < d := h1
                have h3 : ¬ d < d' := by omega
                have h4 : ¬ d' = d := by omega
                have e5 : IntKind.i64.wrap (jp : Int) = jp := by rw [IntKind.wrap_i64]; omega
                clear h1
                go_wp2_with fail
                go_quiet (fail)
                have HF3 := hid ((HF.out.alloc (.cells #[.int .i64 a, .int .i64 by0, .int .i64 c, .int .i64 d, .string t, .slice none 0 0] 30)).drewN nq)
                go_wp2_with fail
                go_roundg (L.length - (jp + 1 + 1))
                case measure => have := HQ2.out; omega
                case rel => exact ⟨jp + 1 + 1, by go_num, by omega, rfl, HF3⟩
              · replace h1 : d' = d := h1
                replace h2 : by' < by0 := h2
                subst h1
                have h3 : ¬ by0 ≤ by' := by omega
                clear h2
                go_wp2_with fail
                go_quiet (fail)
                have HF3 := hid ((HF.out.alloc (.cells #[.int .i64 a, .int .i64 by0, .int .i64 c, .int .i64 d', .string t, .slice none 0 0] 30)).drewN nq)
                go_wp2_with fail
                go_roundg (L.length - (jp + 1 + 1))
                case measure => have := HQ2.out; omega
                case rel => exact ⟨jp + 1 + 1, by go_num, by omega, rfl, HF3⟩
          · have d7 : ¬ (j : Int) < L.length := by omega
            have HL3 := hid (HL2.out.keep HF.out)
            clear hj d6 HF
            go_wp2_with fail
            refine (waiting_b HL3.out.bx tens HL3.out.dom (by decide)).mono ?_
            rintro e w3 ⟨v11, K, rfl, o11, a11, m11, f11, n11⟩
            have HCL := hid (HL3.out.ct.len HL3.out.cm.nodup a11 m11)
            have HO0 := hid (show Lo w w3 g mb (ofP P) cs S v11 K from ⟨HL3.out.bx.keep0 f11, HL3.out.cm.keep f11 (not_no _), HL3.out.fr.fresh_no f11, HL3.out.nS, HL3.out.ap, o11, fun x hx hs => by have h1 := n11 x hx; have h2 := HL3.out.bx.lt x hs; omega⟩)
            have HASK := hid a11
            have HMK := hid m11
            have HCT := hid HL3.out.ct
            have HND := hid HL3.out.cm.nodup
            have hkl : K.length ≤ 10 := by
              have := nodup_len tens K (a11.imp (fun h => by omega)) (fun k hk => HL3.out.dom k ((m11 k).1 hk))
              exact this
            obtain ⟨AK, cK, rfl, hcK, _⟩ := o11.slice
            clear o11 a11 m11 f11 n11 HL3 HL2
            go_wp2_with fail
            go_loopg [99] K.length (fun q v99 w' => ∃ (j : Nat) (f : Int → List MailA) (S : Nat → Prop), v99 = .int .i64 j ∧ j ≤ K.length ∧ q = K.length - j ∧ Hid (Lo w w' g mb f cs S (.slice AK K.length cK) K) ∧ Hid (∀ k ∈ K.drop j, f k = ofP P k))
            case atStart => exact ⟨0, ofP P, S, rfl, Nat.zero_le _, rfl, HO0, fun k hk => rfl⟩
            case round =>
              clear HO0
              obtain ⟨j, f, S, rfl, hj, hq, HO, HK⟩ := hrel
              have HQ3 := hid hq
              clear hq
              by_cases d8 : j < K.length
              · have d9 : (j : Int) < K.length := by omega
                have hk : K[j]? = some K[j] := List.getElem?_eq_getElem d8
                have hdk : K.drop j = K[j] :: K.drop (j + 1) := (List.getElem_cons_drop ..).symm
                have hpre : ∀ jp, j = jp + 1 → ∃ p, K[jp]? = some p ∧ p < K[j] := fun jp e => ⟨K[jp], List.getElem?_eq_getElem (by omega), List.pairwise_iff_getElem.1 HASK.out jp j (by omega) d8 (by omega)⟩
                generalize K[j] = to at hk hdk hpre
                have HKJ := hid hk
                have hfo : f to = ofP P to := HK.out to (by rw [hdk]; exact List.mem_cons_self ..)
                have hne : ofP P to ≠ [] := (HMK.out to).1 (List.mem_of_getElem? hk)
                have hpl := ofP_len P to
                have HCK := hid (show (getK to cs).getD (.int .i64 0) = .int .i64 (f to).length by rw [hfo]; exact HCT.out.get to)
                have hf2 : (f to).length ≤ 60 := by rw [hfo]; omega
                have HKN := hid (show ∀ k ∈ K.drop (j + 1), f k = ofP P k ∧ k ≠ to from fun k hk => ⟨HK.out k (by rw [hdk]; exact List.mem_cons_of_mem _ hk), fun e => by
                  have h1 := HASK.out.sublist (List.drop_sublist j K)
                  rw [hdk] at h1
                  have := (List.pairwise_cons.1 h1).1 k hk
                  omega⟩)
                obtain ⟨m, l, hml⟩ := List.ne_nil_iff_exists_cons.1 (show f to ≠ [] by rw [hfo]; exact hne)
                have hfl : (f to).length = l.length + 1 := by rw [hml]; rfl
                have hl1 : l.length ≤ 59 := by omega
                have hl2 : ((l.length : Int) + 1 == 0) = false := by rw [beq_eq_false_iff_ne]; omega
                have HML := hid hml
                have HLE := hid (show ∀ w', Fr No wr w' → Calls Try.prog 14 #[.pointer (some ⟨g, 0, none⟩), .int .i64 to] w' fun e w'' => e = .returned (.int .i64 ((l.length : Int) + 1)) ∧ w'' = w' from fun w' hf => (len_b (HO.out.bx.keep0 hf) to).mono (fun e w'' h => ⟨h.1.trans (by rw [hfl]; rfl), h.2⟩))
                have HCL2 := hid (show (getK to cs).getD (.int .i64 0) = .int .i64 ((l.length : Int) + 1) by rw [HCK.out, hfl]; rfl)
                have hlkc := fun w' (hf : Fr No wr w') => (look_int ((HO.out.keep hf).cm) to).trans (by rw [HCL2.out])
                have HLK := hid hlkc
                obtain ⟨gk', rfl, _, _, hcell⟩ := int_at HO.out.row hk
                clear hlkc hdk hk hfo hne hml hfl hpl HK hf2
                rcases Nat.eq_zero_or_pos j with e0 | e0
                · subst e0
                  clear hpre
                  have hlk := fun n => HLK.out (wr.drewN n) ((Fr.refl No wr).drewN n)
                  go_wp2_with fail
                  go_quiet ((go_at_call 14; exact Calls.quiet_of_same (HLE.out _ ((Fr.refl No _).drewN _))))
                  have HO1 := hid (HO.out.keep ((Fr.refl No wr).drewN nq))
                  clear hlk hcell HO HLK HLE HCL2
                  go_wp2_with fail
                  refine (look_b HO1.out.bx to m l HML.out).mono ?_
                  rintro e w5 ⟨rfl, f5⟩
                  have HO2 := hid ((HO1.out.keep f5).keep ((Fr.refl No w5).alloc (.cells m.cells 30)))
                  have HX2 := hid (Blk.new w5 30 m.cells)
                  have HNS := hid (show ¬ S w5.heap.size from fun h => absurd ((HO1.out.keep f5).bx.lt _ h) (by omega))
                  clear f5 HO1
                  obtain ⟨a, by0, c, d, t⟩ := m
                  dsimp only [MailA.cells] at HO2 HX2
                  unfold MailA.cells
                  dsimp only
                  go_wp2_with fail
                  refine (take_b HO2.out.bx to ⟨a, by0, c, d, t⟩ l HML.out (by omega)).mono ?_
                  rintro e w6 ⟨S6, rfl, b6, f6, s6⟩
                  have HO3 := hid ((HO2.out.turn b6 f6 s6).keep ((Fr.refl No w6).alloc (.cells #[.int .i64 a, .int .i64 by0, .int .i64 c, .int .i64 d, .string t, .slice none 0 0] 30)))
                  have HX3 := hid ((HX2.out.keep f6 HNS.out).alloc (.cells #[.int .i64 a, .int .i64 by0, .int .i64 c, .int .i64 d, .string t, .slice none 0 0] 30))
                  have HY3 := hid (Blk.new w6 30 #[.int .i64 a, .int .i64 by0, .int .i64 c, .int .i64 d, .string t, .slice none 0 0])
                  clear b6 f6 s6 HO2 HX2
                  have x0 := HX3.out.cell 0
                  have x1 := HX3.out.cell 1
                  have x2 := HX3.out.cell 2
                  have x3 := HX3.out.cell 3
                  have x4 := HX3.out.cell 4
                  have x5 := HX3.out.cell 5
                  unfold MailA.cells
                  dsimp only
                  go_wp2_with fail
                  refine (same_m _ ⟨a, by0, c, d, t⟩).mono ?_
                  rintro e w7 ⟨rfl, f7⟩
                  have HO4 := hid (HO3.out.keep f7)
                  clear f7 x0 x1 x2 x3 x4 x5
                  go_wp2_with fail
                  go_roundg (K.length - (0 + 1))
                  case measure => have := HQ3.out; omega
                  case rel => exact ⟨0 + 1, _, S6, by go_num, by omega, rfl, HO4, fun k hk => by
                    obtain ⟨h1, h2⟩ := HKN.out k hk
                    rw [setF_ne _ _ h2]
                    exact h1⟩
                · obtain ⟨jp, rfl⟩ : ∃ jp, j = jp + 1 := ⟨j - 1, by omega⟩
                  obtain ⟨p, hp, hlt⟩ := hpre jp rfl
                  obtain ⟨gq, hgq, _, _, hcp⟩ := int_at HO.out.row hp
                  injection hgq with hgq
                  injection hgq with hgq
                  subst hgq
                  clear hp hpre e0
                  have e1 : (0 : Int) < (jp : Int) + 1 := by omega
                  have e2 : (jp : Int) < K.length := by omega
                  have e3 : ¬ to ≤ p := by omega
                  have e5 : IntKind.i64.wrap (jp : Int) = jp := by rw [IntKind.wrap_i64]; omega
                  clear hlt
                  have hlk := fun n => HLK.out (wr.drewN n) ((Fr.refl No wr).drewN n)
                  go_wp2_with fail
                  go_quiet ((go_at_call 14; exact Calls.quiet_of_same (HLE.out _ ((Fr.refl No _).drewN _))))
                  clear e5
                  have HO1 := hid (HO.out.keep ((Fr.refl No wr).drewN nq))
                  clear hlk hcell HO HLK HLE HCL2
                  go_wp2_with fail
                  refine (look_b HO1.out.bx to m l HML.out).mono ?_
                  rintro e w5 ⟨rfl, f5⟩
                  have HO2 := hid ((HO1.out.keep f5).keep ((Fr.refl No w5).alloc (.cells m.cells 30)))
                  have HX2 := hid (Blk.new w5 30 m.cells)
                  have HNS := hid (show ¬ S w5.heap.size from fun h => absurd ((HO1.out.keep f5).bx.lt _ h) (by omega))
                  clear f5 HO1
                  obtain ⟨a, by0, c, d, t⟩ := m
                  dsimp only [MailA.cells] at HO2 HX2
                  unfold MailA.cells
                  dsimp only
                  go_wp2_with fail
                  refine (take_b HO2.out.bx to ⟨a, by0, c, d, t⟩ l HML.out (by omega)).mono ?_
                  rintro e w6 ⟨S6, rfl, b6, f6, s6⟩
                  have HO3 := hid ((HO2.out.turn b6 f6 s6).keep ((Fr.refl No w6).alloc (.cells #[.int .i64 a, .int .i64 by0, .int .i64 c, .int .i64 d, .string t, .slice none 0 0] 30)))
                  have HX3 := hid ((HX2.out.keep f6 HNS.out).alloc (.cells #[.int .i64 a, .int .i64 by0, .int .i64 c, .int .i64 d, .string t, .slice none 0 0] 30))
                  have HY3 := hid (Blk.new w6 30 #[.int .i64 a, .int .i64 by0, .int .i64 c, .int .i64 d, .string t, .slice none 0 0])
                  clear b6 f6 s6 HO2 HX2
                  have x0 := HX3.out.cell 0
                  have x1 := HX3.out.cell 1
                  have x2 := HX3.out.cell 2
                  have x3 := HX3.out.cell 3
                  have x4 := HX3.out.cell 4
                  have x5 := HX3.out.cell 5
                  unfold MailA.cells
                  dsimp only
                  go_wp2_with fail
                  refine (same_m _ ⟨a, by0, c, d, t⟩).mono ?_
                  rintro e w7 ⟨rfl, f7⟩
                  have HO4 := hid (HO3.out.keep f7)
                  clear f7 x0 x1 x2 x3 x4 x5
                  go_wp2_with fail
                  go_roundg (K.length - (jp + 1 + 1))
                  case measure => have := HQ3.out; omega
                  case rel => exact ⟨jp + 1 + 1, _, S6, by go_num, by omega, rfl, HO4, fun k hk => by
                    obtain ⟨h1, h2⟩ := HKN.out k hk
                    rw [setF_ne _ _ h2]
                    exact h1⟩
              · have d9 : ¬ (j : Int) < K.length := by omega
                have hln := len_int HO.out.cm (ty := 3)
                rw [HCL.out] at hln
                have kx := fun (a b : Int) (w : World) => run_min2 (P := Try.prog) (w := w) (k := .i64) (ats := #[3, 3]) (ty := 3) a b
                rw [HLEN.out]
                go_wp2_with fail
                rw [HMIN.out]
                refine (awake_c _).mono ?_
                rintro e w7 ⟨rfl, f7⟩
                have HF7 := hid (HO.out.fr.fresh_no f7)
                go_wp2_with fail
                go_ret
                exact ⟨rfl, HF7.out⟩
end Go.Proofs.Ytkglndlmjleomaa
