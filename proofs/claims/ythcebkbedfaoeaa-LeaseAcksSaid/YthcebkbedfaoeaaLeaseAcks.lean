import Derived.Test.YthcebkbedfaoeaaAcksA
import Derived.Deep.QuietTactic
import Derived.BigQuiet
/-! LeaseAcks. -/
namespace Go.Proofs.Ythcebkbedfaoeaa
open Go.RowKit Go.Lib
set_option linter.unusedVariables false
set_option linter.unusedSimpArgs false
attribute [local go_sem ↓] Go.wp_at_zero Go.wp_at_succ

/-- the table behind the ack; the two lists that it told -/
structure Ak (w0 w : World) (g b : Nat) (ms : List (K3 × Ls)) (A1 : Option Addr) (n1 c1 : Nat) (ys : List Ls) (A2 : Option Addr) (n2 c2 : Nat) (zs : List Ls) : Prop where
  tab : IsTab w g b 3 10 0 ms
  was : Own 30 5 w (.slice A1 n1 c1) ys.length (lcells ys)
  now : Own 30 5 w (.slice A2 n2 c2) zs.length (lcells zs)
  fr : Fr No w0 w
theorem Ak.keep {w0 w w' : World} {g b : Nat} {ms : List (K3 × Ls)} {A1 A2 : Option Addr} {n1 c1 n2 c2 : Nat} {ys zs : List Ls} (h : Ak w0 w g b ms A1 n1 c1 ys A2 n2 c2 zs) (hf : Fr No w w') : Ak w0 w' g b ms A1 n1 c1 ys A2 n2 c2 zs :=
  ⟨h.tab.keep hf, h.was.keep hf (fun x _ => not_no x), h.now.keep hf (fun x _ => not_no x), h.fr.fresh_no hf⟩
theorem Own.at_lease {w : World} {A : Option Addr} {n c : Nat} {l : List Ls} (h : Own 30 5 w (.slice A n c) l.length (lcells l)) {i : Nat} {x : Ls} (hx : l[i]? = some x) :
    ∃ ga, A = some ⟨ga, 0, none⟩ ∧ n = l.length ∧ w.cell? ⟨ga, i * 5, none⟩ = some (.int .i64 x.node) ∧ w.cell? ⟨ga, i * 5 + 1, none⟩ = some (.int .i64 x.version) ∧ w.cell? ⟨ga, i * 5 + 2, none⟩ = some (.int .i64 x.fn) ∧ w.cell? ⟨ga, i * 5 + 3, none⟩ = some (.int .i64 x.epoch) ∧ w.cell? ⟨ga, i * 5 + 4, none⟩ = some (.int .i64 x.till) := by
  have hi : i < l.length := by
    rcases Nat.lt_or_ge i l.length with h | h
    · exact h
    · rw [List.getElem?_eq_none h] at hx; cases hx
  rcases h.2 with ⟨_, h0⟩ | ⟨ga, cap, cur, hv, _⟩
  · omega
  · injection hv with hA hn hc
    subst hA hn
    exact ⟨ga, rfl, rfl, lease_at h hx⟩
set_option maxRecDepth 100000 in
set_option maxHeartbeats 4000000 in
theorem leaseAcks_c (y : Value) (ts : List T3) (a e0 : Nat) (ha : a ≤ 255) (he0 : e0 ≤ 255) (w : World) (hy : RdT w y ts) :
    Calls Try.prog 7 #[y, .int .u8 a, .int .u8 e0] w (RetT w) := by
  have HY := hid hy
  obtain ⟨A1, c1, rfl, hc1, _⟩ := hy.1
  clear hy
  obtain ⟨k, hk⟩ : ∃ k : Nat, (a : Int) % 3 = k := ⟨a % 3, by omega⟩
  obtain ⟨E, hE⟩ : ∃ E : Nat, (e0 : Int) % 10 = E := ⟨e0 % 10, by omega⟩
  have bk : k ≤ 2 := by omega
  have bE : E ≤ 9 := by omega
  have HK0 := hid hk
  have HE0 := hid hE
  clear hk hE
  go_enter Try.func7, Try.ntmps7
  go_wp2_with fail
  refine (new_c _ 3 10 0 (by decide) (by decide) (by decide) (by decide) (by decide) (by decide)).mono ?_
  rintro e w1 ⟨g, b, rfl, t1, f1, sg, sb⟩
  have HT1 := hid t1
  have HF1 := hid f1
  have HSB := hid sb
  clear t1 f1 sg sb
  go_wp2_with fail
  go_loopg [9] 20 (fun q v9 w' => ∃ (i : Nat) (ms : List (K3 × Ls)), v9 = .int .i64 i ∧ i ≤ 20 ∧ q = 20 - i ∧ Hid (ms.length ≤ i) ∧ Hid (IsTab w' g b 3 10 0 ms) ∧ Hid (Keyed ms) ∧ Hid (Fr No w w'))
  case atStart => exact ⟨0, [], rfl, by omega, rfl, Nat.le_refl _, HT1, Keyed.nil, HF1⟩
  case round =>
    clear HT1 HF1
    obtain ⟨i, ms, rfl, hi, hq, HM, HT, HKD, HF⟩ := hrel
    have HQ := hid hq
    clear hq
    by_cases d1 : i < ts.length ∧ i < 20
    · obtain ⟨d1, d2⟩ := d1
      have d3 : (i : Int) < ts.length := by omega
      have d4 : (i : Int) < 20 := by omega
      obtain ⟨b1, off, x, y, z, rfl, hz, k0, k1, k2, hok, hlt⟩ := (HY.out.keep HF.out).at_ d1
      have HOK := hid hok
      have q0 := HOK.out.1
      have q1 := HOK.out.2.1
      have q2 := HOK.out.2.2
      dsimp only at q0 q1 q2
      have HLT := hid (show b1 < w.heap.size by
        obtain ⟨_, _, hv, _, _, hr⟩ := HY.out.1
        obtain ⟨b', o', hA, hb', _⟩ := hr (by omega)
        injection hv with hv _ _
        rw [← hv] at hA
        injection hA with hA
        injection hA with hA _ _
        omega)
      have KS := hid (show ∀ w', Fr (fun x => x = b) wr w' → w'.cell? ⟨b1, off + i * 3, none⟩ = some (.int .u8 x) ∧ w'.cell? ⟨b1, off + i * 3 + 1, none⟩ = some (.int .u8 y) ∧ w'.cell? ⟨b1, off + i * 3 + 2, none⟩ = some (.int .u8 z) from fun w' hf => by
        have hl := Nat.lt_of_lt_of_le HLT.out HF.out.size
        have hn : ¬ b1 = b := fun e => by have h1 := HLT.out; have h2 := HSB.out; omega
        exact ⟨(hf.cell hl hn _).trans k0, (hf.cell hl hn _).trans k1, (hf.cell hl hn _).trans k2⟩)
      clear hok hlt hz k0 k1 k2
      obtain ⟨p, hp⟩ : ∃ p : Nat, (x : Int) % 3 = p := ⟨x % 3, by omega⟩
      obtain ⟨f, hf⟩ : ∃ f : Nat, (y : Int) % 10 = f := ⟨y % 10, by omega⟩
      obtain ⟨n, hn⟩ : ∃ n : Nat, (z : Int) % 10 = n := ⟨z % 10, by omega⟩
      have bp : p ≤ 2 := by omega
      have bf : f ≤ 9 := by omega
      have bn : n ≤ 9 := by omega
      have HP := hid (show IntKind.i64.wrap ((x : Int).tmod 3) = p by rw [Int.tmod_eq_emod_of_nonneg (by omega), IntKind.wrap_i64]; omega)
      have HFF := hid (show IntKind.i64.wrap ((y : Int).tmod 10) = f by rw [Int.tmod_eq_emod_of_nonneg (by omega), IntKind.wrap_i64]; omega)
      have HN := hid (show IntKind.i64.wrap ((z : Int).tmod 10) = n by rw [Int.tmod_eq_emod_of_nonneg (by omega), IntKind.wrap_i64]; omega)
      clear hp hf hn
      have HCALL := hid (show ∀ w', Fr No wr w' → Calls Try.prog 9 #[.pointer (some ⟨g, 0, none⟩), .int .i64 (IntKind.i64.wrap ((x : Int).tmod 3)), .int .i64 1, .int .i64 (IntKind.i64.wrap ((y : Int).tmod 10)), .int .i64 (IntKind.i64.wrap ((z : Int).tmod 10)), .int .i64 5] w' fun e w'' =>
          ∃ (u : Value) (ms' : List (K3 × Ls)), e = .returned u ∧ IsTab w'' g b 3 10 0 ms' ∧ Keyed ms' ∧ ms'.length ≤ ms.length + 1 ∧ Fr (fun x => x = b) w' w'' from fun w' hf => by
        rw [HP.out, HFF.out, HN.out]
        exact grant_any (HT.out.keep hf) HKD.out p 1 f n 5 (by omega) (by omega) (by omega) (by omega) (by omega) (by omega))
      go_upto_region 7 with fail
      go_region_held_law (fun w' => w'.cell? ⟨b1, off + i * 3, none⟩ = some (.int .u8 x) ∧ w'.cell? ⟨b1, off + i * 3 + 1, none⟩ = some (.int .u8 y) ∧ w'.cell? ⟨b1, off + i * 3 + 2, none⟩ = some (.int .u8 z))
        ((refine KS.out _ ?_; with_reducible first | exact HF5.out | exact (Fr.refl _ wr).drew | exact Fr.refl _ wr))
        ((go_at_call 9
          refine (HCALL.out _ ((Fr.refl No wr).drew)).mono ?_
          rintro e w5 ⟨u, ms5, rfl, t5, k5, l5, f5⟩
          have HT5 := hid t5
          have HK5 := hid k5
          have HL5 := hid l5
          have HF5 := hid (show Fr (fun x => x = b) wr w5 from Fr.trans (S := fun x => x = b) (Fr.refl _ wr).drew f5 (fun x _ h => h))
          clear t5 k5 l5 f5))
      all_goals
        have HF6 := hid (HF.out.fresh HF5.out (fun x e => by rw [e]; exact HSB.out))
        clear KS HCALL HP HFF HN HOK HLT q0 q1 q2
        go_wp2_with fail
        go_roundg (20 - (i + 1))
        case measure => have := HQ.out; omega
        case rel => exact ⟨i + 1, ms5, by go_num, by omega, rfl, hid (by have h1 := HL5.out; have h2 := HM.out; omega), HT5, HK5, HF6⟩
    · have hcs : ¬ (i : Int) < ts.length ∨ ((i : Int) < ts.length ∧ ¬ (i : Int) < 20) := by omega
      clear d1
      have HML := hid (show ms.length ≤ 20 by have := HM.out; omega)
      rcases hcs with d3 | ⟨d3, d4⟩
      all_goals
        go_wp2_with fail
        refine (all_c HT.out (by have := HML.out; omega)).mono ?_
        rintro e w2 ⟨v2, ys, rfl, py, ay, o2, f2, n2⟩
        have HT2 := hid (HT.out.keep f2)
        have HF2 := hid (HF.out.fresh_no f2)
        have HPY := hid (And.intro py ay)
        have HO2 := hid o2
        have HN2 := hid (show ∀ x, Of v2 x → ¬ x = b from fun x hx e => by have h1 := n2 x hx; have h2 := HT.out.map.lt; omega)
        clear py ay o2 f2 n2 HT HF
        go_wp2_with fail
        rw [HK0.out, HE0.out]
        refine (acked_c HT2.out k E HKD.out.tills (by have := HML.out; omega)).mono ?_
        rintro e w3 ⟨rfl, t3, f3⟩
        have HT3 := hid t3
        have HF3 := hid (HF2.out.fresh f3 (fun x e => by rw [e]; exact HSB.out))
        have HO3 := hid (HO2.out.keep f3 HN2.out)
        clear t3 f3 HT2 HF2 HO2
        have HK3 := hid (HKD.out.sub (fun p => !goesA (k : Int) (E : Int) p.2))
        have HML3 := hid (Nat.le_trans (List.length_filter_le (fun p : K3 × Ls => !goesA (k : Int) (E : Int) p.2) ms) HML.out)
        go_wp2_with fail
        refine (all_c HT3.out (by have := HML3.out; omega)).mono ?_
        rintro e w4 ⟨v4, zs, rfl, pz, az, o4, f4, _⟩
        obtain ⟨A2, c2, rfl, hc2, hm2⟩ := HO3.out.slice
        obtain ⟨A4, c4, rfl, hc4, hm4⟩ := o4.slice
        have hzs := acked_order HKD.out (fun x => !goesA (k : Int) (E : Int) x) HPY.out.1 HPY.out.2 pz az
        have hgone : (ms.length : Int) - ((ms.filter (fun p => !goesA (k : Int) (E : Int) p.2)).length : Nat) = ((ys.filter (goesA (k : Int) (E : Int))).length : Nat) := by
          have h1 := HPY.out.1.length_eq
          have h2 := pz.length_eq
          have h3 := count_gone ys (goesA (k : Int) (E : Int))
          rw [List.length_map] at h1 h2
          rw [hzs] at h2
          omega
        rw [hgone]
        have HD := hid (show Ak w w4 g b (ms.filter (fun p => !goesA (k : Int) (E : Int) p.2)) A2 ys.length c2 ys A4 zs.length c4 zs from ⟨HT3.out.keep f4, HO3.out.keep f4 (fun x _ => not_no x), o4, HF3.out.fresh_no f4⟩)
        have HYL := hid (show ys.length ≤ 20 by have h1 := HPY.out.1.length_eq; have h2 := HML.out; rw [List.length_map] at h1; omega)
        have HZS := hid hzs
        have hzl : zs.length ≤ 20 := by
          have h1 := List.length_filter_le (fun x => !goesA (k : Int) (E : Int) x) ys
          have h2 := HYL.out
          rw [HZS.out]
          omega
        have hyl : ys.length ≤ 20 := HYL.out
        clear hzs hgone pz az o4 f4 HT3 HF3 HO3 hm2 hm4 HN2
        go_wp2_with fail
        go_loopg [13, 15, 73] ys.length (fun q v13 v15 v73 w' => ∃ (j r t : Nat), v73 = .int .i64 j ∧ v15 = .int .i64 t ∧ v13 = .int .i64 r ∧ j ≤ ys.length ∧ q = ys.length - j ∧ t ≤ 20 ∧ r ≤ 20 ∧ Hid (t = ((ys.take j).filter (fun x => !goesA (k : Int) (E : Int) x)).length) ∧ Hid (r = ((ys.drop j).filter (goesA (k : Int) (E : Int))).length) ∧ Hid (Ak w w' g b (ms.filter (fun p => !goesA (k : Int) (E : Int) p.2)) A2 ys.length c2 ys A4 zs.length c4 zs))
        case atStart => exact ⟨0, _, 0, rfl, rfl, rfl, Nat.zero_le _, rfl, by omega, (Nat.le_trans (List.length_filter_le _ _) HYL.out), rfl, rfl, HD⟩
        case round =>
          clear HD
          obtain ⟨j, r, t, rfl, rfl, rfl, hj, hq, ht, hr, HTK, HRK, HD⟩ := hrel
          have HQ2 := hid hq
          clear hq
          by_cases d5 : j < ys.length
          · have d6 : (j : Int) < ys.length := by omega
            have hx : ys[j]? = some ys[j] := List.getElem?_eq_getElem d5
            generalize ys[j] = x at hx
            obtain ⟨gA, rfl, _, k0, k1, k2, k3, k4⟩ := HD.out.was.at_lease hx
            have HX := hid hx
            clear hx
            obtain ⟨b0, b1, b2, b3, b4⟩ := x
            dsimp only at k0 k1 k2 k3 k4
            have HDN := hid (HD.out.keep ((Fr.refl No wr).alloc (.cells #[.int .i64 b0, .int .i64 b1, .int .i64 b2, .int .i64 b3, .int .i64 b4] 30)))
            have HBX := hid (Blk.new wr 30 #[.int .i64 b0, .int .i64 b1, .int .i64 b2, .int .i64 b3, .int .i64 b4])
            have x0 := HBX.out.cell 0
            have x1 := HBX.out.cell 1
            have x2 := HBX.out.cell 2
            have x3 := HBX.out.cell 3
            have x4 := HBX.out.cell 4
            clear HD
            have hcs : (b0 = (k : Int) ∧ b3 < (E : Int)) ∨ (b0 = (k : Int) ∧ ¬ b3 < (E : Int)) ∨ (b0 == (k : Int)) = false := by
              by_cases e1 : b0 = (k : Int)
              · by_cases e2 : b3 < (E : Int)
                · exact .inl ⟨e1, e2⟩
                · exact .inr (.inl ⟨e1, e2⟩)
              · exact .inr (.inr (by simp [e1]))
            rcases hcs with ⟨e1, e2⟩ | ⟨e1, e2⟩ | e1
            · subst e1
              have HG := hid (show goesA (k : Int) (E : Int) ⟨k, b1, b2, b3, b4⟩ = true by unfold goesA; simp [e2])
              have HTN := hid (show t = ((ys.take (j + 1)).filter (fun x => !goesA (k : Int) (E : Int) x)).length by rw [HTK.out, take_skip HX.out (by rw [HG.out]; rfl)])
              have hrd := drop_next (c := goesA (k : Int) (E : Int)) HX.out
              rw [if_pos HG.out, ← HRK.out] at hrd
              obtain ⟨r', hr'⟩ : ∃ r' : Nat, ((ys.drop (j + 1)).filter (goesA (k : Int) (E : Int))).length = r' := ⟨_, rfl⟩
              have HRN := hid hr'
              rw [hr'] at hrd
              have hrr : r = r' + 1 := by omega
              subst hrr
              clear hrd hr'
              go_wp2_with fail
              go_roundg (ys.length - (j + 1))
              case measure => have := HQ2.out; omega
              case rel => exact ⟨j + 1, r', t, by go_num, rfl, congrArg (Value.int .i64) (by omega), by omega, rfl, ht, by omega, HTN, hid HRN.out.symm, HDN⟩
            · have HG := hid (show (!goesA (k : Int) (E : Int) ⟨b0, b1, b2, b3, b4⟩) = true by unfold goesA; simp [e2])
              subst e1
              have HT2 := take_keep (c := fun x => !goesA (k : Int) (E : Int) x) HX.out HG.out
              rw [← HZS.out] at HT2
              have hlt : t < zs.length := by rw [HTK.out]; exact HT2.2.2
              have hzt : zs[t]? = some ⟨(k : Int), b1, b2, b3, b4⟩ := by rw [HTK.out]; exact HT2.2.1
              have HTN := hid (show t + 1 = ((ys.take (j + 1)).filter (fun x => !goesA (k : Int) (E : Int) x)).length by rw [HT2.1, HTK.out])
              have HRN := hid (show r = ((ys.drop (j + 1)).filter (goesA (k : Int) (E : Int))).length by
                rw [HRK.out, drop_next HX.out, if_neg (by have := HG.out; simp at this; simp [this])]
                omega)
              obtain ⟨gB, rfl, _, m0, m1, m2, m3, m4⟩ := HDN.out.now.at_lease hzt
              dsimp only at m0 m1 m2 m3 m4
              have hli : (t : Int) < zs.length := by omega
              have hli2 : ¬ (zs.length : Int) ≤ t := by omega
              clear HT2 hzt hlt
              have kne := fun w => neqL_run (k : Int) b1 b2 b3 b4 w
              go_upto_region 18 with fail
              generalize hbx : wr.heap.size = bx at HBX ⊢
              clear hbx x0 x1 x2 x3 x4
              obtain ⟨V, hV⟩ : ∃ V, wr.alloc (.cells #[.int .i64 (k : Int), .int .i64 b1, .int .i64 b2, .int .i64 b3, .int .i64 b4] 30) = V := ⟨_, rfl⟩
              rw [hV] at HDN HBX m0 m1 m2 m3 m4 ⊢
              clear hV
              have HM := hid (And.intro m0 (And.intro m1 (And.intro m2 (And.intro m3 m4))))
              have HLB := hid (show gB < V.heap.size from HDN.out.now.lt gB (Of_some.2 rfl))
              clear m0 m1 m2 m3 m4
              have KS := hid (show ∀ w', Fr No V w' → w'.cell? ⟨gB, t * 5, none⟩ = some (.int .i64 (k : Int)) ∧ w'.cell? ⟨gB, t * 5 + 1, none⟩ = some (.int .i64 b1) ∧ w'.cell? ⟨gB, t * 5 + 2, none⟩ = some (.int .i64 b2) ∧ w'.cell? ⟨gB, t * 5 + 3, none⟩ = some (.int .i64 b3) ∧ w'.cell? ⟨gB, t * 5 + 4, none⟩ = some (.int .i64 b4) ∧ w'.cell? ⟨bx, 0, none⟩ = some (.int .i64 (k : Int)) ∧ w'.cell? ⟨bx, 1, none⟩ = some (.int .i64 b1) ∧ w'.cell? ⟨bx, 2, none⟩ = some (.int .i64 b2) ∧ w'.cell? ⟨bx, 3, none⟩ = some (.int .i64 b3) ∧ w'.cell? ⟨bx, 4, none⟩ = some (.int .i64 b4) from fun w' hf => by
                have h := HBX.out.keep hf (not_no _)
                obtain ⟨m0, m1, m2, m3, m4⟩ := HM.out
                exact ⟨(hf.cell HLB.out (not_no _) _).trans m0, (hf.cell HLB.out (not_no _) _).trans m1, (hf.cell HLB.out (not_no _) _).trans m2, (hf.cell HLB.out (not_no _) _).trans m3, (hf.cell HLB.out (not_no _) _).trans m4, h.cell 0, h.cell 1, h.cell 2, h.cell 3, h.cell 4⟩)
              go_region_held_law (fun w' => w'.cell? ⟨gB, t * 5, none⟩ = some (.int .i64 (k : Int)) ∧ w'.cell? ⟨gB, t * 5 + 1, none⟩ = some (.int .i64 b1) ∧ w'.cell? ⟨gB, t * 5 + 2, none⟩ = some (.int .i64 b2) ∧ w'.cell? ⟨gB, t * 5 + 3, none⟩ = some (.int .i64 b3) ∧ w'.cell? ⟨gB, t * 5 + 4, none⟩ = some (.int .i64 b4) ∧ w'.cell? ⟨bx, 0, none⟩ = some (.int .i64 (k : Int)) ∧ w'.cell? ⟨bx, 1, none⟩ = some (.int .i64 b1) ∧ w'.cell? ⟨bx, 2, none⟩ = some (.int .i64 b2) ∧ w'.cell? ⟨bx, 3, none⟩ = some (.int .i64 b3) ∧ w'.cell? ⟨bx, 4, none⟩ = some (.int .i64 b4)) ((refine KS.out _ ?_; with_reducible first | exact (Fr.refl _ V).drew | exact Fr.refl _ V)) (fail)
              have HDQ := hid (HDN.out.keep ((Fr.refl No V).drew))
              clear KS HM HLB
              clear kne
              go_wp2_with fail
              go_roundg (ys.length - (j + 1))
              case measure => have := HQ2.out; omega
              case rel => exact ⟨j + 1, r, t + 1, by go_num, by go_num, rfl, by omega, rfl, by omega, hr, HTN, HRN, HDQ⟩
            · have HG := hid (show (!goesA (k : Int) (E : Int) ⟨b0, b1, b2, b3, b4⟩) = true by unfold goesA; simp [e1])
              have HT2 := take_keep (c := fun x => !goesA (k : Int) (E : Int) x) HX.out HG.out
              rw [← HZS.out] at HT2
              have hlt : t < zs.length := by rw [HTK.out]; exact HT2.2.2
              have hzt : zs[t]? = some ⟨b0, b1, b2, b3, b4⟩ := by rw [HTK.out]; exact HT2.2.1
              have HTN := hid (show t + 1 = ((ys.take (j + 1)).filter (fun x => !goesA (k : Int) (E : Int) x)).length by rw [HT2.1, HTK.out])
              have HRN := hid (show r = ((ys.drop (j + 1)).filter (goesA (k : Int) (E : Int))).length by
                rw [HRK.out, drop_next HX.out, if_neg (by have := HG.out; simp at this; simp [this])]
                omega)
              obtain ⟨gB, rfl, _, m0, m1, m2, m3, m4⟩ := HDN.out.now.at_lease hzt
              dsimp only at m0 m1 m2 m3 m4
              have hli : (t : Int) < zs.length := by omega
              have hli2 : ¬ (zs.length : Int) ≤ t := by omega
              clear HT2 hzt hlt
              have kne := fun w => neqL_run b0 b1 b2 b3 b4 w
              go_upto_region 18 with fail
              generalize hbx : wr.heap.size = bx at HBX ⊢
              clear hbx x0 x1 x2 x3 x4
              obtain ⟨V, hV⟩ : ∃ V, wr.alloc (.cells #[.int .i64 b0, .int .i64 b1, .int .i64 b2, .int .i64 b3, .int .i64 b4] 30) = V := ⟨_, rfl⟩
              rw [hV] at HDN HBX m0 m1 m2 m3 m4 ⊢
              clear hV
              have HM := hid (And.intro m0 (And.intro m1 (And.intro m2 (And.intro m3 m4))))
              have HLB := hid (show gB < V.heap.size from HDN.out.now.lt gB (Of_some.2 rfl))
              clear m0 m1 m2 m3 m4
              have KS := hid (show ∀ w', Fr No V w' → w'.cell? ⟨gB, t * 5, none⟩ = some (.int .i64 b0) ∧ w'.cell? ⟨gB, t * 5 + 1, none⟩ = some (.int .i64 b1) ∧ w'.cell? ⟨gB, t * 5 + 2, none⟩ = some (.int .i64 b2) ∧ w'.cell? ⟨gB, t * 5 + 3, none⟩ = some (.int .i64 b3) ∧ w'.cell? ⟨gB, t * 5 + 4, none⟩ = some (.int .i64 b4) ∧ w'.cell? ⟨bx, 0, none⟩ = some (.int .i64 b0) ∧ w'.cell? ⟨bx, 1, none⟩ = some (.int .i64 b1) ∧ w'.cell? ⟨bx, 2, none⟩ = some (.int .i64 b2) ∧ w'.cell? ⟨bx, 3, none⟩ = some (.int .i64 b3) ∧ w'.cell? ⟨bx, 4, none⟩ = some (.int .i64 b4) from fun w' hf => by
                have h := HBX.out.keep hf (not_no _)
                obtain ⟨m0, m1, m2, m3, m4⟩ := HM.out
                exact ⟨(hf.cell HLB.out (not_no _) _).trans m0, (hf.cell HLB.out (not_no _) _).trans m1, (hf.cell HLB.out (not_no _) _).trans m2, (hf.cell HLB.out (not_no _) _).trans m3, (hf.cell HLB.out (not_no _) _).trans m4, h.cell 0, h.cell 1, h.cell 2, h.cell 3, h.cell 4⟩)
              go_region_held_law (fun w' => w'.cell? ⟨gB, t * 5, none⟩ = some (.int .i64 b0) ∧ w'.cell? ⟨gB, t * 5 + 1, none⟩ = some (.int .i64 b1) ∧ w'.cell? ⟨gB, t * 5 + 2, none⟩ = some (.int .i64 b2) ∧ w'.cell? ⟨gB, t * 5 + 3, none⟩ = some (.int .i64 b3) ∧ w'.cell? ⟨gB, t * 5 + 4, none⟩ = some (.int .i64 b4) ∧ w'.cell? ⟨bx, 0, none⟩ = some (.int .i64 b0) ∧ w'.cell? ⟨bx, 1, none⟩ = some (.int .i64 b1) ∧ w'.cell? ⟨bx, 2, none⟩ = some (.int .i64 b2) ∧ w'.cell? ⟨bx, 3, none⟩ = some (.int .i64 b3) ∧ w'.cell? ⟨bx, 4, none⟩ = some (.int .i64 b4)) ((refine KS.out _ ?_; with_reducible first | exact (Fr.refl _ V).drew | exact Fr.refl _ V)) (fail)
              have HDQ := hid (HDN.out.keep ((Fr.refl No V).drew))
              clear KS HM HLB
              clear kne
              go_wp2_with fail
              go_roundg (ys.length - (j + 1))
              case measure => have := HQ2.out; omega
              case rel => exact ⟨j + 1, r, t + 1, by go_num, by go_num, rfl, by omega, rfl, by omega, hr, HTN, HRN, HDQ⟩
          · have d6 : ¬ (j : Int) < ys.length := by omega
            have hjl : j = ys.length := by omega
            have hr0 : r = 0 := by rw [HRK.out, hjl, List.drop_length]; rfl
            have htz : t = zs.length := by rw [HTK.out, hjl, List.take_length, HZS.out]
            subst hr0
            subst htz
            clear hjl
            go_wp2_with fail
            refine (acked_c HD.out.tab k E HK3.out.tills (by have := HML3.out; omega)).mono ?_
            rintro e w5 ⟨rfl, t5, f5⟩
            have hff : (ms.filter (fun p : K3 × Ls => !goesA (k : Int) (E : Int) p.2)).filter (fun p : K3 × Ls => !goesA (k : Int) (E : Int) p.2) = ms.filter (fun p : K3 × Ls => !goesA (k : Int) (E : Int) p.2) := by
              rw [List.filter_filter]
              simp
            rw [hff, Int.sub_self]
            have HF5 := hid (HD.out.fr.fresh f5 (fun x e => by rw [e]; exact HSB.out))
            clear t5 f5 hff
            go_wp2_with fail
            refine (awake_c _).mono ?_
            rintro e w6 ⟨rfl, f6⟩
            have HF6 := hid (HF5.out.fresh_no f6)
            go_wp2_with fail
            go_ret
            exact ⟨rfl, HF6.out⟩
end Go.Proofs.Ythcebkbedfaoeaa
