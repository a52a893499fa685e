import Derived.Test.YtfilmehekibmbaaDiskJoin
import Derived.Deep.DeepCutAuto
/-! DiskKeeps: what is synced is there behind any crash. -/
namespace Go.Proofs.Ytfilmehekibmbaa
open Go.RowKit
set_option linter.unusedVariables false
set_option linter.unusedSimpArgs false

/-- a disk that is new since w0, and bytes of the statement's own apart from it -/
structure StM (w0 w : World) (g : Nat) (v : Value) (d : DSt) (v7 : Value) (xs : List UInt8) : Prop where
  st : St w0 w g v d
  own : OwnB 5 w v7 xs
  new : ∀ k, Of v7 k → w0.heap.size ≤ k
  apart : ∀ k, Of v7 k → ¬ Its g v k
section
variable {w0 w w1 w2 : World} {g : Nat} {v v2 v7 v8 : Value} {d d' : DSt} {xs ys : List UInt8}
theorem StM.keep (h : StM w0 w g v d v7 xs) (hf : Fr No w w1) : StM w0 w1 g v d v7 xs := ⟨h.st.keep hf, h.own.keep hf (fun k _ => not_no k), h.new, h.apart⟩
theorem StM.to (h : StM w0 w g v d v7 xs) (hd : IsDisk w1 g v2 d') (hf : Fr (Its g v) w w1) (hg : Grows w (Of v) v2) : StM w0 w1 g v2 d' v7 xs :=
  ⟨h.st.to hd hf hg, h.own.keep hf h.apart, h.new, fun k hk hi => by
    rcases hi with e | h2
    · exact h.apart k hk (.inl e)
    · rcases hg k h2 with h3 | h3
      · exact h.apart k hk (.inr h3)
      · have := h.own.lt k hk; omega⟩
theorem StM.step (h : StM w0 w g v d v7 xs) {r : DSt × Nat} {en : Ending} (hF : Fr No w w1) (hr : RetD w1 g v r en w2) : ∃ v2, en = .returned (.int .i64 r.2) ∧ StM w0 w2 g v2 r.1 v7 xs := by
  obtain ⟨v2, he, hd, hf, hg⟩ := hr
  exact ⟨v2, he, (h.keep hF).to hd hf hg⟩
theorem StM.step0 (h : StM w0 w g v d v7 xs) {en : Ending} (hF : Fr No w w1) (hr : RetD0 w1 g v d' en w2) : ∃ v2, en = .returned (.tuple #[]) ∧ StM w0 w2 g v2 d' v7 xs := by
  obtain ⟨v2, he, hd, hf, hg⟩ := hr
  exact ⟨v2, he, (h.keep hF).to hd hf hg⟩
/-- other bytes of the statement's own -/
theorem StM.other (h : StM w0 w g v d v7 xs) (hf : Fr No w w1) (ho : OwnB 5 w1 v8 ys) (hn : ∀ k, Of v8 k → w.heap.size ≤ k) : StM w0 w1 g v d v8 ys :=
  ⟨h.st.keep hf, ho, fun k hk => Nat.le_trans h.st.fr.size (hn k hk), fun k hk hi => by have := h.st.disk.its_lt hi; have := hn k hk; omega⟩
end
theorem app_ok (xs ys : List UInt8) (s : Nat) (a : Int) (h : xs.length + ys.length ≤ 1048576) (ha : a ≠ 0) : appendD ⟨1048576, xs, s, a, false⟩ ys = (⟨1048576, xs ++ ys, s, max (a - 1) (-1), false⟩, 0) := by
  unfold appendD operD
  simp only
  rw [if_neg (by simp), if_neg (show ¬ (1048576 : Int) - (xs.length : Int) < ys.length by omega), if_neg (by simp), if_neg ha]
theorem app_zero (xs ys : List UInt8) (s : Nat) (h : xs.length + ys.length ≤ 1048576) : appendD ⟨1048576, xs, s, 0, false⟩ ys = (⟨1048576, xs, s, -1, true⟩, 15) := by
  unfold appendD operD
  simp only
  rw [if_neg (by simp), if_neg (show ¬ (1048576 : Int) - (xs.length : Int) < ys.length by omega), if_neg (by simp), if_pos trivial]
theorem app_down (xs ys : List UInt8) (s : Nat) (a : Int) : appendD ⟨1048576, xs, s, a, true⟩ ys = (⟨1048576, xs, s, a, true⟩, 15) := by
  unfold appendD operD
  rw [if_pos rfl]
theorem sync_ok (xs : List UInt8) (s : Nat) (a : Int) (ha : a ≠ 0) : syncD ⟨1048576, xs, s, a, false⟩ = (⟨1048576, xs, xs.length, max (a - 1) (-1), false⟩, 0) := by
  unfold syncD operD
  simp only
  rw [if_neg (by simp), if_neg (by simp), if_neg ha]
theorem sync_zero (xs : List UInt8) (s : Nat) : syncD ⟨1048576, xs, s, 0, false⟩ = (⟨1048576, xs, s, -1, true⟩, 15) := by
  unfold syncD operD
  simp only
  rw [if_neg (by simp), if_neg (by simp), if_pos trivial]
theorem sync_down (xs : List UInt8) (s : Nat) (a : Int) : syncD ⟨1048576, xs, s, a, true⟩ = (⟨1048576, xs, s, a, true⟩, 15) := by
  unfold syncD operD
  rw [if_pos rfl]
theorem cut_down (xs : List UInt8) (s : Nat) (a n : Int) : cutD ⟨1048576, xs, s, a, true⟩ n = (⟨1048576, xs, s, a, true⟩, 15) := by
  unfold cutD operD
  rw [if_pos rfl]
theorem arm_to (xs : List UInt8) (s : Nat) (a : Int) (n : Int) : ∃ a', armD ⟨1048576, xs, s, a, false⟩ n = ⟨1048576, xs, s, a', false⟩ := ⟨_, by unfold armD; rw [if_neg (by simp)]⟩
theorem crash_to (xs : List UInt8) (s : Nat) (a n : Int) (b : Bool) (hs : s ≤ xs.length) : ∃ l, s ≤ l ∧ l ≤ xs.length ∧ crashD ⟨1048576, xs, s, a, b⟩ n = ⟨1048576, xs.take l, l, -1, false⟩ := by
  refine ⟨left ⟨1048576, xs, s, a, b⟩ n, ?_, left_le hs n, rfl⟩
  unfold left
  simp only
  omega

theorem b_true {x : Int} (h : x = 0) : (x == 0) = true := by rw [beq_iff_eq]; exact h
theorem b_false {x : Int} (h : ¬ x = 0) : (x == 0) = false := by rw [beq_eq_false_iff_ne]; exact h

theorem RdI.at_ {w : World} {A : Option Addr} {zs : List Int} {c k : Nat} (h : RdI w (.slice A zs.length c) zs) (hk : k < zs.length) :
    ∃ b off z, A = some ⟨b, off, none⟩ ∧ zs[k]? = some z ∧ w.cell? ⟨b, off + k, none⟩ = some (.int .i64 z) ∧ -9223372036854775808 ≤ z ∧ z ≤ 9223372036854775807 := by
  obtain ⟨b, off, c', u, h1, h2, h3, h4⟩ := h.1.at_ hk
  injection h1 with h1
  have hz : zs[k]? = some (zs[k]'hk) := by simp [hk]
  rw [List.getElem?_map, hz] at h3
  injection h3 with h3
  subst h3
  exact ⟨b, off, _, h1, hz, h4, h.2 _ (List.getElem_mem hk)⟩
theorem RdI.keep {w w' : World} {v : Value} {zs : List Int} (h : RdI w v zs) (hf : Fr No w w') : RdI w' v zs := ⟨h.1.keep hf (fun k _ => not_no k), h.2⟩

set_option maxRecDepth 100000 in
set_option maxHeartbeats 2000000 in
theorem diskKeeps_c (y : Value) (ps : List (Value × List UInt8)) (y2 : Value) (zs : List Int) (w : World) (h1 : RdL w y ps) (h2 : RdI w y2 zs) :
    Calls Try.prog 6 #[y, y2] w (RetT w) := by
  obtain ⟨A1, c1, rfl, q1⟩ := h1.1
  replace q1 := q1.1
  obtain ⟨A2, c2, rfl, q2⟩ := h2.1
  replace q2 := q2.1
  have H1 := hid h1
  have H2 := hid h2
  clear h1 h2
  have kc := run_convert_const (P := Try.prog) 26 5 Try.underlying26 Try.underlying5
  go_enter Try.func6, Try.ntmps6
  go_wp2_with fail
  refine (new_c 1048576 (by omega) (by omega) _).mono ?_
  rintro e w1 ⟨g, v1, rfl, I, F, hgn, hvn⟩
  have S1 := hid (show StM w w1 g v1 ⟨1048576, [], 0, -1, false⟩ (.slice none 0 0) [] from ⟨St.new I F hgn hvn, OwnB.nil _ _, fun k hk => absurd hk Of_none, fun k hk => absurd hk Of_none⟩)
  clear I F hgn hvn
  go_wp2_with fail
  go_loopg [7, 8, 9] 40 (fun q v7 v8 v9 w' => ∃ (i : Nat) (v : Value) (a : Int) (s : Nat) (xs : List UInt8), v9 = .int .i64 i ∧ v8 = .int .i64 s ∧ i ≤ 40 ∧ q = 40 - i ∧ Hid (xs.length ≤ 100 * i) ∧ Hid (s ≤ xs.length) ∧ Hid (StM w w' g v ⟨1048576, xs, s, a, false⟩ v7 xs))
  case atStart => exact ⟨0, v1, -1, 0, [], rfl, rfl, by omega, rfl, by simp [Hid], by simp [Hid], S1⟩
  case round =>
    clear S1
    obtain ⟨i, v, a, s, xs, rfl, rfl, hi, hq, HL, HSX, HS⟩ := hrel
    have HQ := hid hq
    clear hq
    by_cases d1 : i < ps.length ∧ i < 40 ∧ i < zs.length
    · obtain ⟨d1, d2, d3⟩ := d1
      have d1' : (i : Int) < ps.length := by omega
      have d2' : (i : Int) < 40 := by omega
      have d3' : (i : Int) < zs.length := by omega
      obtain ⟨b, off, As, cs, ys, rfl, hz, hcw, hin⟩ := H1.out.at_ d1
      obtain ⟨b2, off2, z, rfl, hzz, hczw, z1, z2⟩ := H2.out.at_ d3
      have CP := hid (fun (w' : World) (hf : Fr No w w') => (hf.cell (World.block_lt_of_cell? w _ hcw) (not_no _) _).trans hcw)
      have HIN := hid hin
      have k1 := CP.out _ HS.out.st.fr
      have hcz := (HS.out.st.fr.cell (World.block_lt_of_cell? w _ hczw) (not_no _) _).trans hczw
      obtain ⟨A7, c7, rfl, hc7⟩ := HS.out.own.slice
      clear hz hin hzz hcw hczw
      by_cases d4 : ys.length ≤ 100
      · have d5 : (ys.length : Int) ≤ 100 := by omega
        go_wp2_with fail
        refine (pick_c z 1000003 z1 z2 (by omega) (by omega) _).mono ?_
        rintro e wx ⟨rfl, rfl⟩
        have m0 := Int.emod_nonneg z (show (1000003 : Int) ≠ 0 by omega)
        have m1 := Int.emod_lt_of_pos z (show (0 : Int) < 1000003 by omega)
        obtain ⟨t, ht⟩ := Int.eq_ofNat_of_zero_le m0
        rw [ht] at m1 ⊢
        have M1 := hid m1
        obtain ⟨x7, hx7⟩ : ∃ x, (t : Int).tmod 7 = x := ⟨_, rfl⟩
        obtain ⟨x3, hx3⟩ : ∃ x, (t : Int).tmod 3 = x := ⟨_, rfl⟩
        obtain ⟨x5, hx5⟩ : ∃ x, (t : Int).tmod 5 = x := ⟨_, rfl⟩
        have T7 := hid hx7
        have T3 := hid hx3
        have T5 := hid hx5
        clear hx7 hx3 hx5
        clear m0 m1 ht z1 z2 hcz M1
        have t7 := T7.out
        go_upto_if 49 with fail
        go_cut [10] (fun s10 wq => s10 = .int .i64 t ∧ ∃ v a, Hid (StM w wq g v ⟨1048576, xs, s, a, false⟩ (.slice A7 xs.length c7) xs))
        case first =>
          by_cases c7 : x7 = 0
          · have b7 := b_true c7
            clear c7
            go_wp2_with fail
            obtain ⟨a9, ha9⟩ := arm_to xs s a ((wrap64 ((t : Int) / 7)).tmod 4)
            refine (arm_c HS.out.st.disk ((wrap64 ((t : Int) / 7)).tmod 4) (Int.le_trans (Int.le_of_lt (Int.tmod_lt_of_pos _ (by decide))) (show (4 : Int) ≤ 9223372036854775807 by decide)) _ ha9).mono ?_
            intro e w2 hr
            obtain ⟨v2, rfl, S'⟩ := HS.out.step0 (Fr.refl No _) hr
            have S2 := hid S'
            clear S' hr HS
            go_wp2_with fail
            go_meet
            exact ⟨rfl, _, _, S2⟩
          · have b7 := b_false c7
            go_wp2_with fail
            go_meet
            exact ⟨rfl, _, _, HS⟩
        case rest =>
          clear HS k1 t7
          obtain ⟨rfl, v2, a2, S2⟩ := hcut
          have HYG := hid (show 0 < ys.length → ∀ k, Of (.slice As ys.length cs) k → ¬ Its g v2 k from fun h0 k hk hi => by have h1 := HIN.out.2 h0 k hk; have h2 := S2.out.st.its hi; omega)
          have k2 := CP.out _ S2.out.st.fr
          have haf : (appendD ⟨1048576, xs, s, a2, false⟩ ys).2 = 0 ∧ (∃ a3, (appendD ⟨1048576, xs, s, a2, false⟩ ys).1 = ⟨1048576, xs ++ ys, s, a3, false⟩) ∨ (appendD ⟨1048576, xs, s, a2, false⟩ ys).2 = 15 ∧ (∃ a3 dn, (appendD ⟨1048576, xs, s, a2, false⟩ ys).1 = ⟨1048576, xs, s, a3, dn⟩) := by
            by_cases ha : a2 = 0
            · right
              rw [ha, app_zero xs ys s (by have := HL.out; omega)]
              exact ⟨rfl, _, _, rfl⟩
            · left
              rw [app_ok xs ys s a2 (by have := HL.out; omega) ha]
              exact ⟨rfl, _, rfl⟩
          obtain ⟨⟨r1, r2⟩, hr12⟩ : ∃ r, appendD ⟨1048576, xs, s, a2, false⟩ ys = r := ⟨_, rfl⟩
          rw [hr12] at haf
          have HAF := hid haf
          have HAP := hid hr12
          clear haf hr12
          go_wp2_with fail
          refine (append_c S2.out.st.disk _ ys (HIN.out.1.keep S2.out.st.fr (fun k _ => not_no k)) HYG.out (by omega) _ HAP.out).mono ?_
          intro e w3 hr
          obtain ⟨v3, rfl, S'⟩ := S2.out.step (Fr.refl No _) hr
          have S3 := hid (show StM w w3 g v3 r1 (.slice A7 xs.length c7) xs from S')
          have k3 := CP.out _ S3.out.st.fr
          clear S' hr S2 HAP k2
          have HR2 := hid (show r2 = 0 ∨ r2 = 15 from HAF.out.imp (·.1) (·.1))
          go_upto_if 62 with fail
          go_cut [7] (fun s7 wq => ∃ v a dn X, Hid (StM w wq g v ⟨1048576, X, s, a, dn⟩ s7 X) ∧ Hid (X.length ≤ 100 * (i + 1)) ∧ Hid (s ≤ X.length))
          case first =>
            rcases HAF.out with ⟨e2, a3, e3⟩ | ⟨e2, a3, dn, e3⟩
            · subst e3
              have b2 : ((r2 : Int) == 0) = true := by rw [beq_iff_eq]; omega
              have HCL := hid (show xs.length ≤ 140737488355328 by have := HL.out; omega)
              have HCL2 := hid (show xs.length + ys.length ≤ 140737488355328 by have := HL.out; omega)
              have OD := hid (S3.out.own.keep ((Fr.refl No w3).drew) (fun k _ => not_no k))
              have YD := hid (HIN.out.1.keep (S3.out.st.fr.drew) (fun k _ => not_no k))
              clear e2 HAF HR2
              go_wp2_with fail
              go_region_held3 (fun w' => w'.cell? ⟨b, off + i, none⟩ = some (.slice As ys.length cs)) (first | exact k3 | exact (HF5.out.cell (World.block_lt_of_cell? _ _ k3) (not_no _) _).trans k3 | exact (HF6.out.cell (World.block_lt_of_cell? _ _ k3) (not_no _) _).trans k3) ((first
                | (go_at_call 31; refine (copy_c _ xs _ OD.out.rd HCL.out).mono ?_; rintro e w5 ⟨v5, rfl, A', B', C'⟩; have O5 := hid A'; have HF5 := hid (show Fr No w3.drew w5 from B'); have G5 := hid C'; have Y5 := hid (YD.out.keep B' (fun k _ => not_no k)); clear A' B' C')
                | (refine step_appB _ (by rfl) (.tmp 64) (.tmp 68) _ (by rfl) 5 Try.underlying26 infoU8 _ xs (by rfl) O5.out _ ys (by rfl) Y5.out HCL2.out ?_; intro v6 w6 O6 F6 G6; have HF6 := hid (show Fr No w3.drew w6 from HF5.out.fresh F6.out (fun k hk => by rcases G5.out k hk with h | h; exact absurd h (not_no k); exact h)))
                | fail))
              have S6 := hid (S3.out.other (w1 := w6) (((Fr.refl No w3).drew).fresh_no HF6.out) O6.out (fun k hk => by
                rcases G6.out k hk with h | h
                · rcases G5.out k h with h | h
                  · exact absurd h (not_no k)
                  · exact h
                · exact Nat.le_trans HF5.out.size h))
              have HLX := hid (show (xs ++ ys).length ≤ 100 * (i + 1) by have := HL.out; rw [List.length_append]; omega)
              have HSX2 := hid (show s ≤ (xs ++ ys).length by have := HSX.out; rw [List.length_append]; omega)
              clear S3 OD YD k3 O5 G5 Y5 HF5 HF6 O6 G6 F6
              go_wp2_with fail
              go_meet
              exact ⟨_, _, _, _, S6, HLX, HSX2⟩
            · subst e3
              have b2 : ((r2 : Int) == 0) = false := by rw [beq_eq_false_iff_ne]; omega
              clear e2 HAF HR2
              go_wp2_with fail
              go_meet
              exact ⟨_, _, _, xs, S3, by have := HL.out; unfold Hid; omega, HSX⟩
          case rest =>
            clear S3 HAF HR2 k3 HYG
            obtain ⟨v4, a4, dn, X, S4, HLX, HSX2⟩ := hcut
            have hs4 := S4.out.own.slice
            obtain ⟨A4, c4, e4, hc4⟩ := hs4
            subst e4
            have t3 := T3.out
            go_upto_region 16 with fail
            go_cut [77] (fun s77 wq => ∃ c v a d2 s2, s77 = .bool c ∧ Hid (StM w wq g v ⟨1048576, X, s2, a, d2⟩ (.slice A4 X.length c4) X) ∧ Hid (s2 ≤ X.length) ∧ Hid ((c = true ∧ s2 = X.length) ∨ (c = false ∧ s2 = s)))
            case first =>
              by_cases c3 : x3 = 0
              · have b3 := b_true c3
                have hsf : (syncD ⟨1048576, X, s, a4, dn⟩).2 = 0 ∧ (∃ a3, (syncD ⟨1048576, X, s, a4, dn⟩).1 = ⟨1048576, X, X.length, a3, false⟩) ∨ (syncD ⟨1048576, X, s, a4, dn⟩).2 = 15 ∧ (∃ a3 d3, (syncD ⟨1048576, X, s, a4, dn⟩).1 = ⟨1048576, X, s, a3, d3⟩) := by
                  cases dn with
                  | true => right; rw [sync_down]; exact ⟨rfl, _, _, rfl⟩
                  | false =>
                    by_cases ha : a4 = 0
                    · right; rw [ha, sync_zero]; exact ⟨rfl, _, _, rfl⟩
                    · left; rw [sync_ok X s a4 ha]; exact ⟨rfl, _, rfl⟩
                obtain ⟨⟨r3, r4⟩, hr34⟩ : ∃ r, syncD ⟨1048576, X, s, a4, dn⟩ = r := ⟨_, rfl⟩
                rw [hr34] at hsf
                have HSF := hid hsf
                have HSY := hid hr34
                clear hsf hr34
                go_wp2_with fail
                refine (sync_c S4.out.st.disk _ HSY.out).mono ?_
                intro e w7 hr
                obtain ⟨v7', rfl, S'⟩ := S4.out.step (Fr.refl No _) hr
                have S7 := hid (show StM w w7 g v7' r3 (.slice A4 X.length c4) X from S')
                clear S' hr S4 HSY
                rcases HSF.out with ⟨e2, a3, e3⟩ | ⟨e2, a3, d3, e3⟩
                · subst e3
                  have b2 : ((r4 : Int) == 0) = true := by rw [beq_iff_eq]; omega
                  clear e2 HSF
                  go_wp2_with fail
                  go_meet
                  exact ⟨true, _, _, _, _, rfl, S7, Nat.le_refl _, .inl ⟨rfl, rfl⟩⟩
                · subst e3
                  have b2 : ((r4 : Int) == 0) = false := by rw [beq_eq_false_iff_ne]; omega
                  clear e2 HSF
                  go_wp2_with fail
                  go_meet
                  exact ⟨false, _, _, _, _, rfl, S7, HSX2, .inr ⟨rfl, rfl⟩⟩
              · have b3 := b_false c3
                go_wp2_with fail
                go_meet
                exact ⟨false, _, _, _, _, rfl, S4, HSX2, .inr ⟨rfl, rfl⟩⟩
            case rest =>
              clear S4 t3
              obtain ⟨c, v5, a5, d5', s5, rfl, S5, HS5, HC⟩ := hcut
              go_upto_if 77 with fail
              go_cut [8] (fun s8 wq => s8 = .int .i64 s5 ∧ Hid (StM w wq g v5 ⟨1048576, X, s5, a5, d5'⟩ (.slice A4 X.length c4) X))
              case first =>
                rcases HC.out with ⟨rfl, e5⟩ | ⟨rfl, e5⟩
                · have HE5 := hid e5
                  clear e5 HC
                  go_wp2_with fail
                  go_meet
                  exact ⟨by rw [HE5.out], S5⟩
                · have HE5 := hid e5
                  clear e5 HC
                  go_wp2_with fail
                  go_meet
                  exact ⟨by rw [HE5.out], S5⟩
              case rest =>
                clear S5 HC
                obtain ⟨rfl, S5⟩ := hcut
                go_wp2_with fail
                refine (down_c S5.out.st.disk).mono ?_
                rintro e wy ⟨rfl, rfl⟩
                go_upto_if 81 with fail
                go_cut [8] (fun s8 wq => s8 = .int .i64 s5 ∧ ∃ v a, Hid (StM w wq g v ⟨1048576, X, s5, a, d5'⟩ (.slice A4 X.length c4) X))
                case first =>
                  cases d5' with
                  | false =>
                    go_wp2_with fail
                    go_meet
                    exact ⟨rfl, _, _, S5⟩
                  | true =>
                    go_wp2_with fail
                    refine (append_c (S5.out.keep ((Fr.refl No _).alloc _)).st.disk _ [120] (RdB.lit_ _ _ _ _ _ rfl rfl _ (by first | rfl | simp)) (its_new S5.out.st.disk) (by simp) _ (app_down X [120] s5 a5)).mono ?_
                    intro e wd hr
                    obtain ⟨vd, rfl, S'⟩ := S5.out.step ((Fr.refl No _).alloc _) hr
                    have SD := hid S'
                    clear S' hr S5
                    go_wp2_with fail
                    refine (sync_c SD.out.st.disk _ (sync_down X s5 a5)).mono ?_
                    intro e we hr
                    obtain ⟨ve, rfl, S'⟩ := SD.out.step (Fr.refl No _) hr
                    have SE := hid S'
                    clear S' hr SD
                    go_wp2_with fail
                    refine (cut_c SE.out.st.disk 0 _ (cut_down X s5 a5 0)).mono ?_
                    intro e wf hr
                    obtain ⟨vf, rfl, S'⟩ := SE.out.step (Fr.refl No _) hr
                    have SF := hid S'
                    clear S' hr SE
                    go_wp2_with fail
                    go_meet
                    exact ⟨rfl, _, _, SF⟩
                case rest =>
                  clear S5
                  obtain ⟨rfl, v6, a6, S6⟩ := hcut
                  have t5 := T5.out
                  go_wp2_with fail
                  refine (down_c S6.out.st.disk).mono ?_
                  rintro e wy ⟨rfl, rfl⟩
                  cases d5' with
                  | true =>
                    go_wp2_with fail
                    refine (crash_c S6.out.st.disk ((wrap64 ((t : Int) / 35)).tmod 200) _ rfl).mono ?_
                    obtain ⟨l, l1, l2, hl⟩ := crash_to X s5 a6 ((wrap64 ((t : Int) / 35)).tmod 200) true (HS5.out)
                    rw [hl]
                    intro e wc hr
                    obtain ⟨vc, rfl, S'⟩ := S6.out.step0 (Fr.refl No _) hr
                    have SC := hid S'
                    have hlt : (X.take l).length = l := by rw [List.length_take]; omega
                    have HLT := hid hlt
                    have l3 : (l : Int) ≤ X.length := by omega
                    have l4 : (s5 : Int) ≤ l := by omega
                    have l5 : (0 : Int) ≤ l := by omega
                    clear S' hr hl hlt S6
                    go_wp2_with fail
                    refine (read_c SC.out.st.disk (X.take l, 0) rfl).mono ?_
                    rintro e wr2 ⟨vr, rfl, O, F', G'⟩
                    replace O : OwnB 5 wr2 vr (X.take l) := O
                    obtain ⟨Ar, cr, rfl, hcr⟩ := O.slice
                    have SR := hid (SC.out.keep F')
                    have SN := hid (SC.out.other F' O (fun k hk => (G' k hk).resolve_left (not_no k)))
                    have OR := hid O
                    rw [HLT.out] at hcr
                    clear O F' G' SC
                    rw [HLT.out]
                    go_wp2_with fail
                    refine (down_c SR.out.st.disk).mono ?_
                    rintro e wy ⟨rfl, rfl⟩
                    obtain ⟨Aq, cq, hq7, hcq⟩ := SR.out.own.slice
                    have l6 : (l : Int) ≤ cq := by omega
                    have TK := hid (show RdB wy (.slice Aq l cq) (X.take l) from by have h := SR.out.own.rd; rw [hq7] at h; exact h.take (c' := cq) l2 (by omega))
                    injection hq7 with e7 _ e8
                    subst e7 e8
                    go_wp2_with fail
                    refine (same_yes _ _ (X.take l) _ (by have := OR.out.rd; rw [HLT.out] at this; exact this) TK.out).mono ?_
                    rintro e wz ⟨rfl, rfl⟩
                    go_wp2_with fail
                    refine (synced_c SR.out.st.disk).mono ?_
                    rintro e wq ⟨rfl, rfl⟩
                    have hll : ((l : Int) != (l : Int)) = false := by simp
                    go_wp2_with fail

                    go_roundg (40 - (i + 1))
                    case measure => have := HQ.out; omega
                    case rel => exact ⟨i + 1, vc, -1, l, X.take l, by go_num, rfl, by omega, rfl, by have := HL.out; unfold Hid; rw [HLT.out]; have := HLX.out; omega, by unfold Hid; rw [HLT.out]; exact Nat.le_refl _, by have h := SN; rw [HLT.out] at h; exact h⟩
                  | false =>
                    by_cases c5 : x5 = 0
                    · have b5 := b_true c5
                      go_wp2_with fail
                      refine (crash_c S6.out.st.disk ((wrap64 ((t : Int) / 35)).tmod 200) _ rfl).mono ?_
                      obtain ⟨l, l1, l2, hl⟩ := crash_to X s5 a6 ((wrap64 ((t : Int) / 35)).tmod 200) false (HS5.out)
                      rw [hl]
                      intro e wc hr
                      obtain ⟨vc, rfl, S'⟩ := S6.out.step0 (Fr.refl No _) hr
                      have SC := hid S'
                      have hlt : (X.take l).length = l := by rw [List.length_take]; omega
                      have HLT := hid hlt
                      have l3 : (l : Int) ≤ X.length := by omega
                      have l4 : (s5 : Int) ≤ l := by omega
                      have l5 : (0 : Int) ≤ l := by omega
                      clear S' hr hl hlt S6
                      go_wp2_with fail
                      refine (read_c SC.out.st.disk (X.take l, 0) rfl).mono ?_
                      rintro e wr2 ⟨vr, rfl, O, F', G'⟩
                      replace O : OwnB 5 wr2 vr (X.take l) := O
                      obtain ⟨Ar, cr, rfl, hcr⟩ := O.slice
                      have SR := hid (SC.out.keep F')
                      have SN := hid (SC.out.other F' O (fun k hk => (G' k hk).resolve_left (not_no k)))
                      have OR := hid O
                      rw [HLT.out] at hcr
                      clear O F' G' SC
                      rw [HLT.out]
                      go_wp2_with fail
                      refine (down_c SR.out.st.disk).mono ?_
                      rintro e wy ⟨rfl, rfl⟩
                      obtain ⟨Aq, cq, hq7, hcq⟩ := SR.out.own.slice
                      have l6 : (l : Int) ≤ cq := by omega
                      have TK := hid (show RdB wy (.slice Aq l cq) (X.take l) from by have h := SR.out.own.rd; rw [hq7] at h; exact h.take (c' := cq) l2 (by omega))
                      injection hq7 with e7 _ e8
                      subst e7 e8
                      go_wp2_with fail
                      refine (same_yes _ _ (X.take l) _ (by have := OR.out.rd; rw [HLT.out] at this; exact this) TK.out).mono ?_
                      rintro e wz ⟨rfl, rfl⟩
                      go_wp2_with fail
                      refine (synced_c SR.out.st.disk).mono ?_
                      rintro e wq ⟨rfl, rfl⟩
                      have hll : ((l : Int) != (l : Int)) = false := by simp
                      go_wp2_with fail

                      go_roundg (40 - (i + 1))
                      case measure => have := HQ.out; omega
                      case rel => exact ⟨i + 1, vc, -1, l, X.take l, by go_num, rfl, by omega, rfl, by have := HL.out; unfold Hid; rw [HLT.out]; have := HLX.out; omega, by unfold Hid; rw [HLT.out]; exact Nat.le_refl _, by have h := SN; rw [HLT.out] at h; exact h⟩
                    · have b5 := b_false c5
                      go_wp2_with fail
                      go_roundg (40 - (i + 1))
                      case measure => have := HQ.out; omega
                      case rel => exact ⟨i + 1, v6, a6, s5, X, by go_num, rfl, by omega, rfl, HLX, HS5, S6⟩
      · have d5 : 100 < (ys.length : Int) := by omega
        go_wp2_with fail
        go_roundg (40 - (i + 1))
        case measure => have := HQ.out; omega
        case rel => exact ⟨i + 1, v, a, s, xs, by go_num, rfl, by omega, rfl, by have := HL.out; unfold Hid; omega, by unfold Hid; exact HSX.out, HS⟩
    · have hend : (((i : Int) < ps.length ∧ (i : Int) < 40) ∧ ¬ (i : Int) < zs.length) ∨ ((i : Int) < ps.length ∧ ¬ (i : Int) < 40) ∨ ¬ (i : Int) < ps.length := by omega
      clear d1
      rcases hend with ⟨⟨he1, he2⟩, he3⟩ | ⟨he1, he2⟩ | he1
      all_goals
        go_wp2_with fail
        refine (awake_c _).mono ?_
        rintro e w8 ⟨rfl, B⟩
        have F8 := hid (HS.out.st.fr.fresh_no B)
        clear B
        go_wp2_with fail
        go_ret
        exact ⟨rfl, F8.out⟩
end Go.Proofs.Ytfilmehekibmbaa
