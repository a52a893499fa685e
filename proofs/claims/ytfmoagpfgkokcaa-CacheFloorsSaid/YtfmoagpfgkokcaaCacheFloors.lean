import Derived.Test.YtfmoagpfgkokcaaFloorsC
import Derived.Deep.DeepCutAuto
/-! CacheFloors. -/
namespace Go.Proofs.Ytfmoagpfgkokcaa
open Go.RowKit
set_option linter.unusedVariables false
set_option linter.unusedSimpArgs false

set_option maxRecDepth 100000 in
set_option maxHeartbeats 4000000 in
theorem cacheFloors_c (y : Value) (ts : List T3) (a e0 : Nat) (ha : a ≤ 255) (he0 : e0 ≤ 255) (w : World) (hy : RdT w y ts) :
    Calls Try.prog 5 #[y, .int .u8 a, .int .u8 e0] w (RetT w) := by
  have HY := hid hy
  obtain ⟨A1, c1, rfl, hc1, _⟩ := hy.1
  clear hy
  obtain ⟨k, hk⟩ : ∃ k : Nat, (a : Int) % 6 = k := ⟨a % 6, by omega⟩
  obtain ⟨E, hE⟩ : ∃ E : Nat, (e0 : Int) % 10 = E := ⟨e0 % 10, by omega⟩
  have bk : k ≤ 5 := by omega
  have bE : E ≤ 9 := by omega
  have HK0 := hid hk
  have HE0 := hid hE
  clear hk hE
  go_enter Try.func5, Try.ntmps5
  go_wp2_with fail
  refine (new_c _).mono ?_
  rintro en w1 ⟨g, b, fb, rfl, t1, f1, sg, sb, sfb⟩
  have HFL := hid (show Fl w w1 g b fb (.slice none 0 0) [] [] [] from ⟨t1, Own.nil _ _ _, by simp, f1, sb, sfb, fun x hx => absurd hx Of_none⟩)
  clear t1 f1 sg sb sfb
  go_wp2_with fail
  rw [HK0.out, HE0.out]
  clear HK0 HE0
  go_loopg [10, 11] 20 (fun q v10 v11 w' => ∃ (i : Nat) (L : List Ev) (ms : List (K2 × Ev)), v11 = .int .i64 i ∧ i ≤ 20 ∧ q = 20 - i ∧ Hid (L.length = i) ∧ Hid (ms.length ≤ i) ∧ Hid (Good L) ∧ Hid (Holds_ L (fun _ => true) ms) ∧ Hid (Fl w w' g b fb v10 L ms []))
  case atStart => exact ⟨0, [], [], rfl, by omega, rfl, rfl, Nat.le_refl _, by (intro j e he; simp at he), Holds_.nil _, HFL⟩
  case round =>
    clear HFL
    obtain ⟨i, L, ms, rfl, hi, hq, HL, HM, HG, HH, HFL⟩ := hrel
    have HQ := hid hq
    clear hq
    by_cases d1 : i < ts.length ∧ i < 20
    · obtain ⟨d1, d2⟩ := d1
      have d3 : (i : Int) < ts.length := by omega
      have d4 : (i : Int) < 20 := by omega
      obtain ⟨b1, off, x, y, z, rfl, hz, k0, k1, k2, hok, hlt⟩ := (HY.out.keep HFL.out.fr).at_ d1
      have HOK := hid hok
      have HLT := hid hlt
      have q0 := HOK.out.1
      have q1 := HOK.out.2.1
      have q2 := HOK.out.2.2
      dsimp only at q0 q1 q2
      have KS := hid (show ∀ w', Fr No wr w' → w'.cell? ⟨b1, off + i * 3, none⟩ = some (.int .u8 x) ∧ w'.cell? ⟨b1, off + i * 3 + 1, none⟩ = some (.int .u8 y) ∧ w'.cell? ⟨b1, off + i * 3 + 2, none⟩ = some (.int .u8 z) from fun w' hf => ⟨(hf.cell HLT.out (not_no _) _).trans k0, (hf.cell HLT.out (not_no _) _).trans k1, (hf.cell HLT.out (not_no _) _).trans k2⟩)
      clear hok hlt hz k0 k1 k2
      obtain ⟨p, hp⟩ : ∃ p : Nat, (x : Int) % 10 = p := ⟨x % 10, by omega⟩
      obtain ⟨f, hf⟩ : ∃ f : Nat, (y : Int) % 6 = f := ⟨y % 6, by omega⟩
      obtain ⟨n, hn⟩ : ∃ n : Nat, (z : Int) % 6 = n := ⟨z % 6, by omega⟩
      have qp : IntKind.i64.wrap ((x : Int).tmod 10) = p := by rw [Int.tmod_eq_emod_of_nonneg (by omega), IntKind.wrap_i64]; omega
      have qf : IntKind.i64.wrap ((y : Int).tmod 6) = f := by rw [Int.tmod_eq_emod_of_nonneg (by omega), IntKind.wrap_i64]; omega
      have qn : IntKind.i64.wrap ((z : Int).tmod 6) = n := by rw [Int.tmod_eq_emod_of_nonneg (by omega), IntKind.wrap_i64]; omega
      have HP := hid qp
      have HF := hid qf
      have HN := hid qn
      clear hp hf hn qp qf qn
      have HCALL := hid (show ∀ (w' : World) (bb : Nat), w'.cell? ⟨bb, 0, none⟩ = some (.int .i64 (IntKind.i64.wrap ((z : Int).tmod 6))) → bb < w'.heap.size → Calls Try.prog 9 #[.int .i64 i, .int .i64 (IntKind.i64.wrap ((x : Int).tmod 10)), .int .i64 50, .int .i64 (IntKind.i64.wrap ((y : Int).tmod 6)), .slice (some ⟨bb, 0, none⟩) 1 1] w' fun en w'' => ∃ A c, en = .returned (.agg #[.int .i64 i, .int .i64 p, .int .i64 50, .int .i64 f, .int .i64 1, .slice none 0 0, .slice none 0 0, .slice A 1 c]) ∧ (Ev.mk i p 50 f 1 [(n : Int)] (.slice A 1 c)).ok w'' ∧ Fr No w' w'' from fun w' bb hc hb => by
        rw [HP.out, HF.out]
        rw [HN.out] at hc
        refine (coded1_c w' i p 50 f n bb 0 1 hc hb (Nat.le_refl _)).mono ?_
        rintro en w2 ⟨nv, h1, h2, h3, _⟩
        obtain ⟨A, c, hv⟩ := Ev.slice h2
        dsimp only at hv
        subst hv
        exact ⟨A, c, h1, h2, h3⟩)
      go_upto_region 7 with fail
      go_cut [12] (fun s12 wq => ∃ (A : Option Addr) (c xb : Nat), s12 = .pointer (some ⟨xb, 0, none⟩) ∧ Hid (wr.heap.size ≤ xb) ∧ Hid (Fl w wq g b fb u10 L ms []) ∧ Hid (Boxed8 wq xb i p 50 f n (.slice A 1 c)))
      case first =>
        go_region_held_law (fun w' => w'.cell? ⟨b1, off + i * 3, none⟩ = some (.int .u8 x) ∧ w'.cell? ⟨b1, off + i * 3 + 1, none⟩ = some (.int .u8 y) ∧ w'.cell? ⟨b1, off + i * 3 + 2, none⟩ = some (.int .u8 z))
          ((refine KS.out _ ?_; with_reducible first | exact HF5.out | exact HF5.out.alloc _ | exact HF5.out.fresh8 (Nat.le_refl _) _ _ _ _ _ _ _ _ | exact HF5.out.fresh8 (Nat.le_succ _) _ _ _ _ _ _ _ _ | exact (Fr.refl _ wr).drew | exact ((Fr.refl _ wr).alloc _).drew | exact (((Fr.refl _ wr).alloc _).alloc _).drew | exact ((Fr.refl _ wr).drew).alloc _ | exact (((Fr.refl _ wr).drew).alloc _).alloc _ | exact Fr.refl _ wr))
          ((go_at_call 9
            refine (HCALL.out _ _ (by go_simp) (by first | (simp; done) | (simp; omega))).mono ?_
            rintro en w5 ⟨A5, c5, rfl, ok5, f5⟩
            have HOK5 := hid ok5
            have HF5 := hid (show Fr No wr w5 from Fr.fresh_no (by first | exact ((Fr.refl No wr).alloc _).drew | exact (((Fr.refl No wr).alloc _).alloc _).drew) f5)
            clear ok5
            first
              | (have HXB := hid (show Blk w5 wr.heap.size 28 #[.int .i64 0, .int .i64 0, .int .i64 0, .int .i64 0, .int .i64 0, .slice none 0 0, .slice none 0 0, .slice none 0 0] from by with_reducible exact Blk.keep (Blk.drew (Blk.alloc (Blk.new wr 28 #[.int .i64 0, .int .i64 0, .int .i64 0, .int .i64 0, .int .i64 0, .slice none 0 0, .slice none 0 0, .slice none 0 0]) _)) f5 (not_no _))
                 have y0 := HXB.out.cell 0
                 have y1 := HXB.out.cell 1
                 have y2 := HXB.out.cell 2
                 have y3 := HXB.out.cell 3
                 have y4 := HXB.out.cell 4
                 have y5 := HXB.out.cell 5
                 have y6 := HXB.out.cell 6
                 have y7 := HXB.out.cell 7
                 have yf := HXB.out.frozen)
              | (have HXB := hid (show Blk w5 (wr.heap.size + 1) 28 #[.int .i64 0, .int .i64 0, .int .i64 0, .int .i64 0, .int .i64 0, .slice none 0 0, .slice none 0 0, .slice none 0 0] from by with_reducible exact Blk.keep (Blk.drew (Blk.new_ (wr.alloc _) 28 #[.int .i64 0, .int .i64 0, .int .i64 0, .int .i64 0, .int .i64 0, .slice none 0 0, .slice none 0 0, .slice none 0 0] (n := wr.heap.size + 1) (by simp))) f5 (not_no _))
                 have y0 := HXB.out.cell 0
                 have y1 := HXB.out.cell 1
                 have y2 := HXB.out.cell 2
                 have y3 := HXB.out.cell 3
                 have y4 := HXB.out.cell 4
                 have y5 := HXB.out.cell 5
                 have y6 := HXB.out.cell 6
                 have y7 := HXB.out.cell 7
                 have yf := HXB.out.frozen)
              | skip
            clear f5))
        all_goals
          go_wp2_with fail
          go_meet
          first
            | (with_reducible exact ⟨A5, c5, _, rfl, hid (Nat.le_refl _), hid (boxed_set HFL.out HF5.out HOK5.out HXB.out (Nat.le_refl _)).1, hid (boxed_set HFL.out HF5.out HOK5.out HXB.out (Nat.le_refl _)).2⟩)
            | (with_reducible exact ⟨A5, c5, _, rfl, hid (Nat.le_succ _), hid (boxed_set HFL.out HF5.out HOK5.out HXB.out (Nat.le_succ _)).1, hid (boxed_set HFL.out HF5.out HOK5.out HXB.out (Nat.le_succ _)).2⟩)
            | (with_reducible exact ⟨A5, c5, _, rfl, hid HF5.out.size, hid (boxed_new HFL.out HF5.out HOK5.out).1, hid (boxed_new HFL.out HF5.out HOK5.out).2⟩)
            | fail
      case rest =>
        clear HCALL KS HF HP HN HOK HLT q0 q1 q2
        obtain ⟨A, c, xb, rfl, HGE, HF1, HB1⟩ := hcut
        have HSEP := hid (show ¬ Of u10 xb from fun h => by have h1 := HFL.out.all.lt _ h; have h2 := HGE.out; omega)
        clear HGE
        have HX := hid HB1.out.1
        have HO1 := hid HB1.out.2
        clear HB1 HFL
        have x0 := HX.out.cell 0
        have x1 := HX.out.cell 1
        have x2 := HX.out.cell 2
        have x3 := HX.out.cell 3
        have x4 := HX.out.cell 4
        have x5 := HX.out.cell 5
        have x6 := HX.out.cell 6
        have x7 := HX.out.cell 7
        have HW8 := hid (HF1.out.keep ((Fr.refl No wc).alloc (.cells (Ev.mk i p 50 f 1 [(n : Int)] (.slice A 1 c)).cells 28)))
        have HO8 := hid (HO1.out.keep ((Fr.refl No wc).alloc (.cells (Ev.mk i p 50 f 1 [(n : Int)] (.slice A 1 c)).cells 28)))
        have HX8 := hid (HX.out.alloc (.cells (Ev.mk i p 50 f 1 [(n : Int)] (.slice A 1 c)).cells 28))
        have HLE := hid (show L.length ≤ 20 by rw [HL.out]; omega)
        go_wp2_with (at_builtin; go_loud (refine wpl_app _ rfl (.tmp 60) (.tmp 62) _ rfl 28 (.agg #[.int .i64 0, .int .i64 0, .int .i64 0, .int .i64 0, .int .i64 0, .slice none 0 0, .slice none 0 0, .slice none 0 0]) 8 112 Try.underlying42 infoE (by rfl) _ L.length (ecells L) rfl HW8.out.all _ 1 (Ev.mk i p 50 f 1 [(n : Int)] (.slice A 1 c)).cells.toList rfl (Rd.entry _ _) (ec_one HO8.out) (by have := HLE.out; unfold maxLen; omega) (by have := HLE.out; omega) ?_; intro v9 w9 O9 F9 G9; obtain ⟨A9, c9, rfl, _, _⟩ := O9.slice; have HFA := hid (HW8.out.append HO8.out O9 F9 (fun k hk => (G9 k hk).imp id (fun e => Nat.le_of_eq e.symm))); have HX9 := hid (HX8.out.keep F9 HSEP.out); have HO9 := hid (HO8.out.keepO HW8.out.all F9); clear O9 F9 G9; clear x0 x1 x2 x3 x4 x5 x6 x7; have x0 := HX9.out.cell 0; have x1 := HX9.out.cell 1; have x2 := HX9.out.cell 2; have x3 := HX9.out.cell 3; have x4 := HX9.out.cell 4; have x5 := HX9.out.cell 5; have x6 := HX9.out.cell 6; have x7 := HX9.out.cell 7))
        obtain ⟨hel, _⟩ := more_elder HH.out (by have := HM.out; have := HL.out; omega) i HL.out p 50 f 1 [(n : Int)] (.slice A 1 c) (.slice A 1 c)
        have HEL := hid hel
        clear hel
        refine (put_ok HFA.out.c ⟨i, p, 50, f, 1, [(n : Int)], .slice A 1 c⟩ HO9.out rfl HEL.out).mono ?_
        rintro en w10 ⟨nv10, rfl, t10, f10⟩
        have HF10 := hid (HFA.out.put t10 f10)
        have HH10 := hid (more_elder HH.out (by have := HM.out; have := HL.out; omega) i HL.out p 50 f 1 [(n : Int)] (.slice A 1 c) nv10).2
        clear t10 f10 x0 x1 x2 x3 x4 x5 x6 x7
        have HM10 := hid (putE_len ((i : Int), (f : Int)) ⟨i, p, 50, f, 1, [(n : Int)], nv10⟩ ms)
        have HG10 := hid (show Good (L ++ [⟨(i : Nat), p, 50, f, 1, [(n : Int)], .slice A 1 c⟩]) by have h := HG.out.more p f 1 n (.slice A 1 c); rw [HL.out] at h; exact h)
        go_wp2_with fail
        go_roundg (20 - (i + 1))
        case measure => have := HQ.out; omega
        case rel => exact ⟨i + 1, _, _, by go_num, by omega, rfl, hid (by rw [List.length_append, List.length_singleton, HL.out]), hid (Nat.le_trans HM10.out (by have := HM.out; omega)), HG10, HH10, HF10⟩
    · have hcs : ¬ (i : Int) < ts.length ∨ ((i : Int) < ts.length ∧ ¬ (i : Int) < 20) := by omega
      clear d1
      rcases hcs with d3 | ⟨d3, d4⟩
      all_goals
        go_wp2_with fail
        refine (rests_cc HFL.out.c k E).mono ?_
        rintro en w2 ⟨rfl, f2⟩
        have HF2 := hid (HFL.out.keep f2)
        obtain ⟨N, hN⟩ : ∃ N : Int, (ms.length : Int) - ((ms.filter (fun p => !belowB [((k : Int), (E : Int))] p.2)).length : Nat) = N := ⟨_, rfl⟩
        rw [rests_count (k : Int) E ms, hN]
        have HN := hid hN
        clear hN f2 HFL
        go_wp2_with fail
        refine (revoke_c HF2.out.c k E (by have := HM.out; omega)).mono ?_
        rintro en w3 ⟨rfl, t3, f3⟩
        rw [floor_first (k : Int) E (by omega)] at t3 ⊢
        rw [HN.out]
        have HH3 := hid (HH.out.revoked [((k : Int), (E : Int))])
        have HF3 := hid (HF2.out.store t3 f3)
        have HM3 := hid (Nat.le_trans (List.length_filter_le (fun p => !belowB [((k : Int), (E : Int))] p.2) ms) (Nat.le_trans HM.out hi))
        clear t3 f3 HF2 HN HH
        generalize ms.filter (fun p => !belowB [((k : Int), (E : Int))] p.2) = ms3 at HH3 HF3 HM3
        go_wp2_with fail
        refine (rests_cc HF3.out.c k E).mono ?_
        rintro en w4 ⟨rfl, f4⟩
        rw [HH3.out.none_rests.1]
        have HF4 := hid (HF3.out.keep f4)
        clear f4 HF3
        obtain ⟨Aa, ca, hva, _⟩ := HF4.out.all.slice
        subst hva
        have HLB : L.length ≤ 20 := by rw [HL.out]; exact hi
        go_wp2_with fail
        go_loopg [87] L.length (fun q v87 w' => ∃ (j : Nat) (ms : List (K2 × Ev)), v87 = .int .i64 j ∧ j ≤ L.length ∧ q = L.length - j ∧ Hid (ms.length ≤ 20 + j) ∧ Hid (Holds_ L (fun e => !belowB [((k : Int), (E : Int))] e) ms) ∧ Hid (Fl w w' g b fb (.slice Aa L.length ca) L ms [((k : Int), (E : Int))]))
        case atStart => exact ⟨0, ms3, rfl, Nat.zero_le _, rfl, HM3, HH3, HF4⟩
        case round =>
          clear HF4 HH3 HM3
          obtain ⟨j, ms, rfl, hj, hq, HM, HH, HFL⟩ := hrel
          have HQ := hid hq
          clear hq
          by_cases d1 : j < L.length
          · have d5 : (j : Int) < L.length := by omega
            obtain ⟨ga, hga⟩ : ∃ ga, Aa = some ⟨ga, 0, none⟩ := by
              rcases HFL.out.all.2 with ⟨_, h0⟩ | ⟨ga, cap, cur, hv, _⟩
              · omega
              · injection hv with hv _ _
                exact ⟨ga, hv⟩
            subst hga
            obtain ⟨e, he⟩ : ∃ e, L[j]? = some e := ⟨L[j], List.getElem?_eq_getElem d1⟩
            have hat := entry_at HFL.out.all he
            have HOK := hid (HFL.out.rows e (List.mem_of_getElem? he))
            obtain ⟨hver, htill, n, hns⟩ := HG.out j e he
            obtain ⟨a0, p, a2, f, rg, ns, nv⟩ := e
            dsimp only at hver htill hns
            subst hver htill hns
            obtain ⟨nb, no, cn, rfl, hcn, hnb, hnc⟩ := need_at HOK.out
            have z0 := hat 0 (by omega)
            have z1 := hat 1 (by omega)
            have z2 := hat 2 (by omega)
            have z3 := hat 3 (by omega)
            have z4 := hat 4 (by omega)
            have z5 := hat 5 (by omega)
            have z6 := hat 6 (by omega)
            have z7 := hat 7 (by omega)
            clear hat
            simp only [Ev.cells, Nat.add_zero, List.getElem?_cons_zero, List.getElem?_cons_succ] at z0 z1 z2 z3 z4 z5 z6 z7
            have HE := hid he
            clear he
            have c1 : (1 : Int) ≤ cn := by omega
            obtain ⟨bl, hbl⟩ : ∃ bl, belowB [((k : Int), (E : Int))] ⟨j, p, 50, f, rg, [n], .slice (some ⟨nb, no, none⟩) 1 cn⟩ = bl := ⟨_, rfl⟩
            have HBL := hid hbl
            have hbl2 := hbl
            rw [below_one] at hbl2
            unfold underB restsB at hbl2
            simp only [List.any_cons, List.any_nil, Bool.or_false] at hbl2
            clear hbl
            have HAS := hid (HH.out.has_ HE.out rfl)
            dsimp only at HAS
            have hcs : (bl = false ∧ ¬ p < (E : Int)) ∨ (bl = true ∧ p < (E : Int) ∧ f = (k : Int)) ∨ (bl = true ∧ p < (E : Int) ∧ f ≠ (k : Int) ∧ n = (k : Int)) ∨ (bl = false ∧ p < (E : Int) ∧ f ≠ (k : Int) ∧ n ≠ (k : Int)) := by
              rw [← hbl2]
              by_cases h1 : p < (E : Int) <;> by_cases h2 : f = (k : Int) <;> by_cases h3 : n = (k : Int) <;> simp [h1, h2, h3]
            clear hbl2
            rcases hcs with ⟨rfl, g1⟩ | ⟨rfl, g1, rfl⟩ | ⟨rfl, g1, g2, rfl⟩ | ⟨rfl, g1, g2, g3⟩
            · have HXA := hid (Blk.new wr 28 #[.int .i64 j, .int .i64 p, .int .i64 50, .int .i64 f, .int .i64 rg, .slice none 0 0, .slice none 0 0, .slice (some ⟨nb, no, none⟩) 1 cn])
              have HFA := hid (HFL.out.keep ((Fr.refl No wr).alloc (.cells #[.int .i64 j, .int .i64 p, .int .i64 50, .int .i64 f, .int .i64 rg, .slice none 0 0, .slice none 0 0, .slice (some ⟨nb, no, none⟩) 1 cn] 28)))
              have HOA := hid (HOK.out.keep ((Fr.refl No wr).alloc (.cells #[.int .i64 j, .int .i64 p, .int .i64 50, .int .i64 f, .int .i64 rg, .slice none 0 0, .slice none 0 0, .slice (some ⟨nb, no, none⟩) 1 cn] 28)))
              have hn1 := (((Fr.refl No wr).alloc (.cells #[.int .i64 j, .int .i64 p, .int .i64 50, .int .i64 f, .int .i64 rg, .slice none 0 0, .slice none 0 0, .slice (some ⟨nb, no, none⟩) 1 cn] 28)).cell hnb (not_no _) no).trans hnc
              go_wp2_with fail
              refine (get_yes_ HFA.out.c j f 0 (by have h := HAS.out; rw [HBL.out] at h; exact h)).mono ?_
              rintro en w5 ⟨gx, gy, gA, gm, gc, rfl, f5⟩
              have HFB := hid ((HFA.out.keep f5).keep ((Fr.refl No w5).alloc (.cells #[.int .i64 gx, .int .i64 gy, .slice none 0 0, .slice none 0 0, .slice gA gm gc] 26)))
              have HOB := hid ((HOA.out.keep f5).keep ((Fr.refl No w5).alloc (.cells #[.int .i64 gx, .int .i64 gy, .slice none 0 0, .slice none 0 0, .slice gA gm gc] 26)))
              have HXB := hid ((HXA.out.keep f5 (not_no _)).alloc (.cells #[.int .i64 gx, .int .i64 gy, .slice none 0 0, .slice none 0 0, .slice gA gm gc] 26))
              clear f5 hn1 z0 z1 z2 z3 z4 z5 z6 z7 hnc hnb
              have x0 := HXB.out.cell 0
              have x1 := HXB.out.cell 1
              have x2 := HXB.out.cell 2
              have x3 := HXB.out.cell 3
              have x4 := HXB.out.cell 4
              have x5 := HXB.out.cell 5
              have x6 := HXB.out.cell 6
              have x7 := HXB.out.cell 7
              go_wp2_with fail
              refine (put_ok HFB.out.c ⟨j, p, 50, f, rg, [n], .slice (some ⟨nb, no, none⟩) 1 cn⟩ HOB.out HBL.out (HH.out.elder_ HE.out rfl HBL.out)).mono ?_
              rintro en w6 ⟨nv6, rfl, t6, f6⟩
              have HFC := hid (HFB.out.put t6 f6)
              have HHC := hid (HH.out.again HE.out (by rw [HBL.out]; rfl) (Like.mk_ _ nv6))
              have HMC := hid (putE_len ((j : Int), f) ⟨j, p, 50, f, rg, [n], nv6⟩ ms)
              clear t6 f6 x0 x1 x2 x3 x4 x5 x6 x7
              go_wp2_with fail
              go_roundg (L.length - (j + 1))
              case measure => have := HQ.out; omega
              case rel => exact ⟨j + 1, _, by go_num, by omega, rfl, hid (Nat.le_trans HMC.out (by have := HM.out; omega)), HHC, HFC⟩
            · have HXA := hid (Blk.new wr 28 #[.int .i64 j, .int .i64 p, .int .i64 50, .int .i64 (k : Int), .int .i64 rg, .slice none 0 0, .slice none 0 0, .slice (some ⟨nb, no, none⟩) 1 cn])
              have HFA := hid (HFL.out.keep ((Fr.refl No wr).alloc (.cells #[.int .i64 j, .int .i64 p, .int .i64 50, .int .i64 (k : Int), .int .i64 rg, .slice none 0 0, .slice none 0 0, .slice (some ⟨nb, no, none⟩) 1 cn] 28)))
              have HOA := hid (HOK.out.keep ((Fr.refl No wr).alloc (.cells #[.int .i64 j, .int .i64 p, .int .i64 50, .int .i64 (k : Int), .int .i64 rg, .slice none 0 0, .slice none 0 0, .slice (some ⟨nb, no, none⟩) 1 cn] 28)))
              have hn1 := (((Fr.refl No wr).alloc (.cells #[.int .i64 j, .int .i64 p, .int .i64 50, .int .i64 (k : Int), .int .i64 rg, .slice none 0 0, .slice none 0 0, .slice (some ⟨nb, no, none⟩) 1 cn] 28)).cell hnb (not_no _) no).trans hnc
              go_wp2_with fail
              refine (get_no HFA.out.c j (k : Int) 0 (by have h := HAS.out; rw [HBL.out] at h; exact h)).mono ?_
              rintro en w5 ⟨rfl, f5⟩
              have HFB := hid ((HFA.out.keep f5).keep ((Fr.refl No w5).alloc (.cells #[.int .i64 0, .int .i64 0, .slice none 0 0, .slice none 0 0, .slice none 0 0] 26)))
              have HOB := hid ((HOA.out.keep f5).keep ((Fr.refl No w5).alloc (.cells #[.int .i64 0, .int .i64 0, .slice none 0 0, .slice none 0 0, .slice none 0 0] 26)))
              have HXB := hid ((HXA.out.keep f5 (not_no _)).alloc (.cells #[.int .i64 0, .int .i64 0, .slice none 0 0, .slice none 0 0, .slice none 0 0] 26))
              clear f5 hn1 z0 z1 z2 z3 z4 z5 z6 z7 hnc hnb
              have x0 := HXB.out.cell 0
              have x1 := HXB.out.cell 1
              have x2 := HXB.out.cell 2
              have x3 := HXB.out.cell 3
              have x4 := HXB.out.cell 4
              have x5 := HXB.out.cell 5
              have x6 := HXB.out.cell 6
              have x7 := HXB.out.cell 7
              unfold zeroFast
              go_wp2_with fail
              refine (put_no HFB.out.c ⟨j, p, 50, (k : Int), rg, [n], .slice (some ⟨nb, no, none⟩) 1 cn⟩ HOB.out (by rw [HBL.out]; rfl)).mono ?_
              rintro en w6 ⟨rfl, f6⟩
              have HFC := hid (HFB.out.keep f6)
              clear f6 x0 x1 x2 x3 x4 x5 x6 x7
              go_wp2_with fail
              go_roundg (L.length - (j + 1))
              case measure => have := HQ.out; omega
              case rel => exact ⟨j + 1, ms, by go_num, by omega, rfl, hid (by have := HM.out; omega), HH, HFC⟩
            · have e2 : (f == (k : Int)) = false := by rw [beq_eq_false_iff_ne]; exact g2
              have HXA := hid (Blk.new wr 28 #[.int .i64 j, .int .i64 p, .int .i64 50, .int .i64 f, .int .i64 rg, .slice none 0 0, .slice none 0 0, .slice (some ⟨nb, no, none⟩) 1 cn])
              have HFA := hid (HFL.out.keep ((Fr.refl No wr).alloc (.cells #[.int .i64 j, .int .i64 p, .int .i64 50, .int .i64 f, .int .i64 rg, .slice none 0 0, .slice none 0 0, .slice (some ⟨nb, no, none⟩) 1 cn] 28)))
              have HOA := hid (HOK.out.keep ((Fr.refl No wr).alloc (.cells #[.int .i64 j, .int .i64 p, .int .i64 50, .int .i64 f, .int .i64 rg, .slice none 0 0, .slice none 0 0, .slice (some ⟨nb, no, none⟩) 1 cn] 28)))
              have hn1 := (((Fr.refl No wr).alloc (.cells #[.int .i64 j, .int .i64 p, .int .i64 50, .int .i64 f, .int .i64 rg, .slice none 0 0, .slice none 0 0, .slice (some ⟨nb, no, none⟩) 1 cn] 28)).cell hnb (not_no _) no).trans hnc
              go_wp2_with fail
              refine (get_no HFA.out.c j f 0 (by have h := HAS.out; rw [HBL.out] at h; exact h)).mono ?_
              rintro en w5 ⟨rfl, f5⟩
              have HFB := hid ((HFA.out.keep f5).keep ((Fr.refl No w5).alloc (.cells #[.int .i64 0, .int .i64 0, .slice none 0 0, .slice none 0 0, .slice none 0 0] 26)))
              have HOB := hid ((HOA.out.keep f5).keep ((Fr.refl No w5).alloc (.cells #[.int .i64 0, .int .i64 0, .slice none 0 0, .slice none 0 0, .slice none 0 0] 26)))
              have HXB := hid ((HXA.out.keep f5 (not_no _)).alloc (.cells #[.int .i64 0, .int .i64 0, .slice none 0 0, .slice none 0 0, .slice none 0 0] 26))
              clear f5 hn1 z0 z1 z2 z3 z4 z5 z6 z7 hnc hnb
              have x0 := HXB.out.cell 0
              have x1 := HXB.out.cell 1
              have x2 := HXB.out.cell 2
              have x3 := HXB.out.cell 3
              have x4 := HXB.out.cell 4
              have x5 := HXB.out.cell 5
              have x6 := HXB.out.cell 6
              have x7 := HXB.out.cell 7
              unfold zeroFast
              go_wp2_with fail
              refine (put_no HFB.out.c ⟨j, p, 50, f, rg, [(k : Int)], .slice (some ⟨nb, no, none⟩) 1 cn⟩ HOB.out (by rw [HBL.out]; rfl)).mono ?_
              rintro en w6 ⟨rfl, f6⟩
              have HFC := hid (HFB.out.keep f6)
              clear f6 x0 x1 x2 x3 x4 x5 x6 x7
              go_wp2_with fail
              go_roundg (L.length - (j + 1))
              case measure => have := HQ.out; omega
              case rel => exact ⟨j + 1, ms, by go_num, by omega, rfl, hid (by have := HM.out; omega), HH, HFC⟩
            · have e2 : (f == (k : Int)) = false := by rw [beq_eq_false_iff_ne]; exact g2
              have e3 : (n == (k : Int)) = false := by rw [beq_eq_false_iff_ne]; exact g3
              have HXA := hid (Blk.new wr 28 #[.int .i64 j, .int .i64 p, .int .i64 50, .int .i64 f, .int .i64 rg, .slice none 0 0, .slice none 0 0, .slice (some ⟨nb, no, none⟩) 1 cn])
              have HFA := hid (HFL.out.keep ((Fr.refl No wr).alloc (.cells #[.int .i64 j, .int .i64 p, .int .i64 50, .int .i64 f, .int .i64 rg, .slice none 0 0, .slice none 0 0, .slice (some ⟨nb, no, none⟩) 1 cn] 28)))
              have HOA := hid (HOK.out.keep ((Fr.refl No wr).alloc (.cells #[.int .i64 j, .int .i64 p, .int .i64 50, .int .i64 f, .int .i64 rg, .slice none 0 0, .slice none 0 0, .slice (some ⟨nb, no, none⟩) 1 cn] 28)))
              have hn1 := (((Fr.refl No wr).alloc (.cells #[.int .i64 j, .int .i64 p, .int .i64 50, .int .i64 f, .int .i64 rg, .slice none 0 0, .slice none 0 0, .slice (some ⟨nb, no, none⟩) 1 cn] 28)).cell hnb (not_no _) no).trans hnc
              go_wp2_with fail
              refine (get_yes_ HFA.out.c j f 0 (by have h := HAS.out; rw [HBL.out] at h; exact h)).mono ?_
              rintro en w5 ⟨gx, gy, gA, gm, gc, rfl, f5⟩
              have HFB := hid ((HFA.out.keep f5).keep ((Fr.refl No w5).alloc (.cells #[.int .i64 gx, .int .i64 gy, .slice none 0 0, .slice none 0 0, .slice gA gm gc] 26)))
              have HOB := hid ((HOA.out.keep f5).keep ((Fr.refl No w5).alloc (.cells #[.int .i64 gx, .int .i64 gy, .slice none 0 0, .slice none 0 0, .slice gA gm gc] 26)))
              have HXB := hid ((HXA.out.keep f5 (not_no _)).alloc (.cells #[.int .i64 gx, .int .i64 gy, .slice none 0 0, .slice none 0 0, .slice gA gm gc] 26))
              clear f5 hn1 z0 z1 z2 z3 z4 z5 z6 z7 hnc hnb
              have x0 := HXB.out.cell 0
              have x1 := HXB.out.cell 1
              have x2 := HXB.out.cell 2
              have x3 := HXB.out.cell 3
              have x4 := HXB.out.cell 4
              have x5 := HXB.out.cell 5
              have x6 := HXB.out.cell 6
              have x7 := HXB.out.cell 7
              go_wp2_with fail
              refine (put_ok HFB.out.c ⟨j, p, 50, f, rg, [n], .slice (some ⟨nb, no, none⟩) 1 cn⟩ HOB.out HBL.out (HH.out.elder_ HE.out rfl HBL.out)).mono ?_
              rintro en w6 ⟨nv6, rfl, t6, f6⟩
              have HFC := hid (HFB.out.put t6 f6)
              have HHC := hid (HH.out.again HE.out (by rw [HBL.out]; rfl) (Like.mk_ _ nv6))
              have HMC := hid (putE_len ((j : Int), f) ⟨j, p, 50, f, rg, [n], nv6⟩ ms)
              clear t6 f6 x0 x1 x2 x3 x4 x5 x6 x7
              go_wp2_with fail
              go_roundg (L.length - (j + 1))
              case measure => have := HQ.out; omega
              case rel => exact ⟨j + 1, _, by go_num, by omega, rfl, hid (Nat.le_trans HMC.out (by have := HM.out; omega)), HHC, HFC⟩
          · have d5 : ¬ (j : Int) < L.length := by omega
            go_wp2_with fail
            refine (rests_cc HFL.out.c k E).mono ?_
            rintro en w2 ⟨rfl, f2⟩
            rw [HH.out.none_rests.1]
            have HF2 := hid (HFL.out.keep f2)
            clear f2 HFL
            go_wp2_with fail
            refine (revoke_c HF2.out.c k E (by have := HM.out; omega)).mono ?_
            rintro en w3 ⟨rfl, t3, f3⟩
            rw [floor_again (k : Int) E E (Int.le_refl _), HH.out.none_rests.2] at t3 ⊢
            rw [Int.sub_self]
            have HF3 := hid (HF2.out.store t3 f3)
            clear t3 f3 HF2
            go_wp2_with fail
            refine (pick_c (e0 : Int) ((E : Int) + 1) (by omega) (by omega) (by omega) (by omega) _).mono ?_
            rintro en wx ⟨rfl, rfl⟩
            obtain ⟨p, hp⟩ : ∃ p : Int, (e0 : Int) % ((E : Int) + 1) = p := ⟨_, rfl⟩
            have hpE : p ≤ E := by have := Int.emod_lt_of_pos (e0 : Int) (show (0 : Int) < (E : Int) + 1 by omega); omega
            rw [hp]
            clear hp
            go_wp2_with fail
            refine (revoke_c HF3.out.c k p (by have := HM.out; omega)).mono ?_
            rintro en w4 ⟨rfl, t4, f4⟩
            rw [floor_again (k : Int) E p hpE, HH.out.none_rests.2] at t4 ⊢
            rw [Int.sub_self]
            have HF4 := hid (HF3.out.store t4 f4)
            clear t4 f4 HF3
            go_wp2_with fail
            refine (awake_c _).mono ?_
            rintro en w5 ⟨rfl, f5⟩
            have HF5 := hid (HF4.out.fr.fresh_no f5)
            go_wp2_with fail
            go_ret
            exact ⟨rfl, HF5.out⟩
end Go.Proofs.Ytfmoagpfgkokcaa
