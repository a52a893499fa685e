import Derived.Test.YtfmoagpfgkokcaaCacheI
/-! CacheEpochs. -/
namespace Go.Proofs.Ytfmoagpfgkokcaa
open Go.RowKit
set_option linter.unusedVariables false
set_option linter.unusedSimpArgs false

theorem putE_one (k : K2) (e : Ev) : putE k e [] = [(k, e)] := rfl
theorem putE_same (k : K2) (e f : Ev) : putE k e [(k, f)] = [(k, e)] := by simp [putE]
theorem getE_same (k : K2) (e : Ev) : getE k [(k, e)] = some e := by simp [getE]
theorem wasE_same (k : K2) (e : Ev) : wasE k [(k, e)] = e := by simp [wasE, getE_same]
set_option maxRecDepth 100000 in
set_option maxHeartbeats 1000000 in
theorem cacheEpochs_c (a b : Nat) (ha : a ≤ 255) (hb : b ≤ 255) (w : World) : Calls Try.prog 3 #[.int .u8 a, .int .u8 b] w (RetT w) := by
  obtain ⟨x, hx⟩ : ∃ x : Nat, (a : Int) % 10 = x := ⟨a % 10, by omega⟩
  obtain ⟨y, hy⟩ : ∃ y : Nat, (b : Int) % 10 = y := ⟨b % 10, by omega⟩
  go_enter Try.func3, Try.ntmps3
  go_wp2_with fail
  refine (coded_c _ _ _ _ _).mono ?_
  rintro en w1 ⟨rfl, f1⟩
  rw [show (Ev.mk 1 x 50 3 1 [] (.slice none 0 0)).val = .agg #[.int .i64 1, .int .i64 x, .int .i64 50, .int .i64 3, .int .i64 1, .slice none 0 0, .slice none 0 0, .slice none 0 0] from rfl]
  go_wp2_with fail
  refine (coded_c _ _ _ _ _).mono ?_
  rintro en w2 ⟨rfl, f2⟩
  rw [show (Ev.mk 1 y 50 3 1 [] (.slice none 0 0)).val = .agg #[.int .i64 1, .int .i64 y, .int .i64 50, .int .i64 3, .int .i64 1, .slice none 0 0, .slice none 0 0, .slice none 0 0] from rfl]
  have F2 := hid (f1.fresh_no f2)
  have HB5 := hid ((Blk.new w2 28 #[.int .i64 1, .int .i64 x, .int .i64 50, .int .i64 3, .int .i64 1, .slice none 0 0, .slice none 0 0, .slice none 0 0]).alloc (.cells #[.int .i64 1, .int .i64 y, .int .i64 50, .int .i64 3, .int .i64 2, .slice none 0 0, .slice none 0 0, .slice none 0 0] 28))
  have HB6 := hid (show Blk ((w2.alloc (.cells #[.int .i64 1, .int .i64 x, .int .i64 50, .int .i64 3, .int .i64 1, .slice none 0 0, .slice none 0 0, .slice none 0 0] 28)).alloc (.cells #[.int .i64 1, .int .i64 y, .int .i64 50, .int .i64 3, .int .i64 2, .slice none 0 0, .slice none 0 0, .slice none 0 0] 28)) (w2.heap.size + 1) 28 #[.int .i64 1, .int .i64 y, .int .i64 50, .int .i64 3, .int .i64 2, .slice none 0 0, .slice none 0 0, .slice none 0 0] from by
    have := Blk.new (w2.alloc (.cells #[.int .i64 1, .int .i64 x, .int .i64 50, .int .i64 3, .int .i64 1, .slice none 0 0, .slice none 0 0, .slice none 0 0] 28)) 28 #[.int .i64 1, .int .i64 y, .int .i64 50, .int .i64 3, .int .i64 2, .slice none 0 0, .slice none 0 0, .slice none 0 0]
    rwa [show (w2.alloc (.cells #[.int .i64 1, .int .i64 x, .int .i64 50, .int .i64 3, .int .i64 1, .slice none 0 0, .slice none 0 0, .slice none 0 0] 28)).heap.size = w2.heap.size + 1 by simp] at this)
  have FA := hid ((F2.out.alloc (.cells #[.int .i64 1, .int .i64 x, .int .i64 50, .int .i64 3, .int .i64 1, .slice none 0 0, .slice none 0 0, .slice none 0 0] 28)).alloc (.cells #[.int .i64 1, .int .i64 y, .int .i64 50, .int .i64 3, .int .i64 2, .slice none 0 0, .slice none 0 0, .slice none 0 0] 28))
  clear f1 f2
  go_wp2_with fail
  refine (new_c _).mono ?_
  rintro en w3 ⟨g, bb, fb, rfl, t3, f3, sg, sb, sfb⟩
  have HT3 := hid t3
  have HF3 := hid (FA.out.fresh_no f3)
  have HSB := hid (Nat.le_trans FA.out.size sb)
  have HC5 := hid (HB5.out.keep f3 (not_no _))
  have HC6 := hid (HB6.out.keep f3 (not_no _))
  clear t3 f3 sg sb sfb
  have PUT1 := hid (show ∀ w', Fr No w3 w' → Calls Try.prog 11 #[.pointer (some ⟨g, 0, none⟩), .agg #[.int .i64 1, .int .i64 x, .int .i64 50, .int .i64 3, .int .i64 1, .slice none 0 0, .slice none 0 0, .slice none 0 0]] w' fun en w'' => ∃ nv, en = .returned (.bool true) ∧ IsC w'' g bb fb [((1, 3), ⟨1, x, 50, 3, 1, [], nv⟩)] [] ∧ Fr (fun z => z = bb) w' w'' from fun w' hf =>
    (put_ok (HT3.out.keep hf) ⟨1, x, 50, 3, 1, [], .slice none 0 0⟩ (nil_ok _ _ _ _ _ _) rfl rfl).mono (fun en w'' h => by
      obtain ⟨nv, he, hc, hfr⟩ := h
      rw [putE_one] at hc
      exact ⟨nv, he, hc, hfr⟩))
  go_upto_region 4 with fail
  have KS := hid (show ∀ w', Fr (fun z => z = bb) w3 w' → w'.cell? ⟨w2.heap.size, 0, none⟩ = some (.int .i64 1) ∧ w'.cell? ⟨w2.heap.size, 1, none⟩ = some (.int .i64 x) ∧ w'.cell? ⟨w2.heap.size, 2, none⟩ = some (.int .i64 50) ∧ w'.cell? ⟨w2.heap.size, 3, none⟩ = some (.int .i64 3) ∧ w'.cell? ⟨w2.heap.size, 4, none⟩ = some (.int .i64 1) ∧ w'.cell? ⟨w2.heap.size, 5, none⟩ = some (.slice none 0 0) ∧ w'.cell? ⟨w2.heap.size, 6, none⟩ = some (.slice none 0 0) ∧ w'.cell? ⟨w2.heap.size, 7, none⟩ = some (.slice none 0 0) ∧ w'.cell? ⟨w2.heap.size + 1, 0, none⟩ = some (.int .i64 1) ∧ w'.cell? ⟨w2.heap.size + 1, 1, none⟩ = some (.int .i64 y) ∧ w'.cell? ⟨w2.heap.size + 1, 2, none⟩ = some (.int .i64 50) ∧ w'.cell? ⟨w2.heap.size + 1, 3, none⟩ = some (.int .i64 3) ∧ w'.cell? ⟨w2.heap.size + 1, 4, none⟩ = some (.int .i64 2) ∧ w'.cell? ⟨w2.heap.size + 1, 5, none⟩ = some (.slice none 0 0) ∧ w'.cell? ⟨w2.heap.size + 1, 6, none⟩ = some (.slice none 0 0) ∧ w'.cell? ⟨w2.heap.size + 1, 7, none⟩ = some (.slice none 0 0) from fun w' hf => by
    have h1 := HC5.out.keep hf (fun e => (HC5.out.not_mapK HT3.out.map) e)
    have h2 := HC6.out.keep hf (fun e => (HC6.out.not_mapK HT3.out.map) e)
    exact ⟨h1.cell 0, h1.cell 1, h1.cell 2, h1.cell 3, h1.cell 4, h1.cell 5, h1.cell 6, h1.cell 7, h2.cell 0, h2.cell 1, h2.cell 2, h2.cell 3, h2.cell 4, h2.cell 5, h2.cell 6, h2.cell 7⟩)
  by_cases hyx : y < x
  · have PUT2 := hid (show ∀ nv w', IsC w' g bb fb [((1, 3), ⟨1, x, 50, 3, 1, [], nv⟩)] [] → Calls Try.prog 11 #[.pointer (some ⟨g, 0, none⟩), .agg #[.int .i64 1, .int .i64 y, .int .i64 50, .int .i64 3, .int .i64 2, .slice none 0 0, .slice none 0 0, .slice none 0 0]] w' fun en w'' => ∃ nv', en = .returned (.bool false) ∧ IsC w'' g bb fb [((1, 3), ⟨1, x, 50, 3, 1, [], nv'⟩)] [] ∧ Fr (fun z => z = bb) w' w'' from fun nv w' hc =>
      (put_no hc ⟨1, y, 50, 3, 2, [], .slice none 0 0⟩ (nil_ok _ _ _ _ _ _) (by
        unfold elder
        rw [getE_same, wasE_same]
        simp [belowB]
        omega)).mono (fun en w'' h => ⟨nv, h.1, hc.keep h.2, h.2.mono (fun x _ h => absurd h (not_no x))⟩))
    have PUTX := hid (show ∀ v w', ((v = .agg #[.int .i64 1, .int .i64 x, .int .i64 50, .int .i64 3, .int .i64 1, .slice none 0 0, .slice none 0 0, .slice none 0 0] ∧ Fr No w3 w') ∨ (v = .agg #[.int .i64 1, .int .i64 y, .int .i64 50, .int .i64 3, .int .i64 2, .slice none 0 0, .slice none 0 0, .slice none 0 0] ∧ ∃ nv, IsC w' g bb fb [((1, 3), ⟨1, x, 50, 3, 1, [], nv⟩)] [])) → Calls Try.prog 11 #[.pointer (some ⟨g, 0, none⟩), v] w' fun en w'' =>
        (v = .agg #[.int .i64 1, .int .i64 x, .int .i64 50, .int .i64 3, .int .i64 1, .slice none 0 0, .slice none 0 0, .slice none 0 0] → ∃ nv, en = .returned (.bool true) ∧ IsC w'' g bb fb [((1, 3), ⟨1, x, 50, 3, 1, [], nv⟩)] [] ∧ Fr (fun z => z = bb) w' w'') ∧ (v = .agg #[.int .i64 1, .int .i64 y, .int .i64 50, .int .i64 3, .int .i64 2, .slice none 0 0, .slice none 0 0, .slice none 0 0] → ∃ nv', en = .returned (.bool false) ∧ IsC w'' g bb fb [((1, 3), ⟨1, x, 50, 3, 1, [], nv'⟩)] [] ∧ Fr (fun z => z = bb) w' w'') from fun v w' hv => by
      rcases hv with ⟨rfl, hf⟩ | ⟨rfl, nv, hc⟩
      · exact (PUT1.out w' hf).mono (fun en w'' h => ⟨fun _ => h, fun e => by simp at e⟩)
      · exact (PUT2.out nv w' hc).mono (fun en w'' h => ⟨fun e => by simp at e, fun _ => h⟩))
    have e1 : ¬ (x : Int) ≤ y := by omega
    go_region_held_law (fun w' => w'.cell? ⟨w2.heap.size, 0, none⟩ = some (.int .i64 1) ∧ w'.cell? ⟨w2.heap.size, 1, none⟩ = some (.int .i64 x) ∧ w'.cell? ⟨w2.heap.size, 2, none⟩ = some (.int .i64 50) ∧ w'.cell? ⟨w2.heap.size, 3, none⟩ = some (.int .i64 3) ∧ w'.cell? ⟨w2.heap.size, 4, none⟩ = some (.int .i64 1) ∧ w'.cell? ⟨w2.heap.size, 5, none⟩ = some (.slice none 0 0) ∧ w'.cell? ⟨w2.heap.size, 6, none⟩ = some (.slice none 0 0) ∧ w'.cell? ⟨w2.heap.size, 7, none⟩ = some (.slice none 0 0) ∧ w'.cell? ⟨w2.heap.size + 1, 0, none⟩ = some (.int .i64 1) ∧ w'.cell? ⟨w2.heap.size + 1, 1, none⟩ = some (.int .i64 y) ∧ w'.cell? ⟨w2.heap.size + 1, 2, none⟩ = some (.int .i64 50) ∧ w'.cell? ⟨w2.heap.size + 1, 3, none⟩ = some (.int .i64 3) ∧ w'.cell? ⟨w2.heap.size + 1, 4, none⟩ = some (.int .i64 2) ∧ w'.cell? ⟨w2.heap.size + 1, 5, none⟩ = some (.slice none 0 0) ∧ w'.cell? ⟨w2.heap.size + 1, 6, none⟩ = some (.slice none 0 0) ∧ w'.cell? ⟨w2.heap.size + 1, 7, none⟩ = some (.slice none 0 0))
      ((refine KS.out _ ?_; first | exact (Fr.refl _ w3).drew | exact HK5.out | exact HK6.out | exact Fr.refl _ w3 | exact HK5.out.drew | exact ((Fr.refl _ w3).drew).drew))
      ((go_at_call 11
        refine (PUTX.out _ _ (by first | exact .inl ⟨rfl, (Fr.refl _ w3).drew⟩ | exact .inl ⟨rfl, Fr.refl _ w3⟩ | exact .inl ⟨rfl, ((Fr.refl _ w3).drew).drew⟩ | exact .inr ⟨rfl, _, HT5.out⟩ | exact .inr ⟨rfl, _, HT5.out.keep ((Fr.refl No w5).drew)⟩)).mono ?_
        first
          | (rintro en w5 ⟨hh, _⟩
             obtain ⟨nv5, rfl, t5, f5⟩ := hh rfl
             have HT5 := hid t5
             have HK5 := hid (show Fr (fun z => z = bb) w3 w5 from Fr.trans (S := fun z => z = bb) (by first | exact (Fr.refl _ w3).drew | exact Fr.refl _ w3 | exact ((Fr.refl _ w3).drew).drew) f5 (fun x _ h => h))
             clear t5 f5 hh)
          | (rintro en w6 ⟨_, hh⟩
             obtain ⟨nv6, rfl, t6, f6⟩ := hh rfl
             have HT6 := hid t6
             have HK6 := hid (show Fr (fun z => z = bb) w3 w6 from HK5.out.trans (Fr.trans (S := fun z => z = bb) (by first | exact Fr.refl _ w5 | exact (Fr.refl _ w5).drew) f6 (fun x _ h => h)) (fun x _ h => h))
             clear t6 f6 hh)))
    all_goals
      have HFW := hid (HF3.out.fresh HK6.out (fun z e => by rw [e]; exact HSB.out))
      go_wp2_with fail
      refine (get_yes HT6.out 1 3 0 (by unfold has; rw [getE_same, wasE_same]; simp)).mono ?_
      rw [wasE_same]
      rintro en w7 ⟨A7, c7, rfl, f7⟩
      dsimp only [List.length_nil]
      have HT7 := hid ((HT6.out.keep f7).keep ((Fr.refl No w7).alloc (.cells #[.int .i64 3, .int .i64 1, .slice none 0 0, .slice none 0 0, .slice A7 0 c7] 26)))
      have HF7 := hid ((HFW.out.fresh_no f7).alloc (.cells #[.int .i64 3, .int .i64 1, .slice none 0 0, .slice none 0 0, .slice A7 0 c7] 26))
      clear f7
      go_wp2_with fail
      refine (len_c HT7.out).mono ?_
      rintro en wx ⟨rfl, rfl⟩
      go_wp2_with fail
      refine (awake_c _).mono ?_
      rintro en w8 ⟨rfl, f8⟩
      have HF8 := hid (HF7.out.fresh_no f8)
      go_wp2_with fail
      go_ret
      exact ⟨rfl, HF8.out⟩
  · have PUT2 := hid (show ∀ nv w', IsC w' g bb fb [((1, 3), ⟨1, x, 50, 3, 1, [], nv⟩)] [] → Calls Try.prog 11 #[.pointer (some ⟨g, 0, none⟩), .agg #[.int .i64 1, .int .i64 y, .int .i64 50, .int .i64 3, .int .i64 2, .slice none 0 0, .slice none 0 0, .slice none 0 0]] w' fun en w'' => ∃ nv', en = .returned (.bool true) ∧ IsC w'' g bb fb [((1, 3), ⟨1, y, 50, 3, 2, [], nv'⟩)] [] ∧ Fr (fun z => z = bb) w' w'' from fun nv w' hc =>
      (put_ok hc ⟨1, y, 50, 3, 2, [], .slice none 0 0⟩ (nil_ok _ _ _ _ _ _) rfl (by
        unfold elder
        rw [getE_same, wasE_same]
        simp
        omega)).mono (fun en w'' h => by
          obtain ⟨nv', he, hc2, hfr⟩ := h
          rw [putE_same] at hc2
          exact ⟨nv', he, hc2, hfr⟩))
    have PUTX := hid (show ∀ v w', ((v = .agg #[.int .i64 1, .int .i64 x, .int .i64 50, .int .i64 3, .int .i64 1, .slice none 0 0, .slice none 0 0, .slice none 0 0] ∧ Fr No w3 w') ∨ (v = .agg #[.int .i64 1, .int .i64 y, .int .i64 50, .int .i64 3, .int .i64 2, .slice none 0 0, .slice none 0 0, .slice none 0 0] ∧ ∃ nv, IsC w' g bb fb [((1, 3), ⟨1, x, 50, 3, 1, [], nv⟩)] [])) → Calls Try.prog 11 #[.pointer (some ⟨g, 0, none⟩), v] w' fun en w'' =>
        (v = .agg #[.int .i64 1, .int .i64 x, .int .i64 50, .int .i64 3, .int .i64 1, .slice none 0 0, .slice none 0 0, .slice none 0 0] → ∃ nv, en = .returned (.bool true) ∧ IsC w'' g bb fb [((1, 3), ⟨1, x, 50, 3, 1, [], nv⟩)] [] ∧ Fr (fun z => z = bb) w' w'') ∧ (v = .agg #[.int .i64 1, .int .i64 y, .int .i64 50, .int .i64 3, .int .i64 2, .slice none 0 0, .slice none 0 0, .slice none 0 0] → ∃ nv', en = .returned (.bool true) ∧ IsC w'' g bb fb [((1, 3), ⟨1, y, 50, 3, 2, [], nv'⟩)] [] ∧ Fr (fun z => z = bb) w' w'') from fun v w' hv => by
      rcases hv with ⟨rfl, hf⟩ | ⟨rfl, nv, hc⟩
      · exact (PUT1.out w' hf).mono (fun en w'' h => ⟨fun _ => h, fun e => by simp at e⟩)
      · exact (PUT2.out nv w' hc).mono (fun en w'' h => ⟨fun e => by simp at e, fun _ => h⟩))
    have e1 : (x : Int) ≤ y := by omega
    go_region_held_law (fun w' => w'.cell? ⟨w2.heap.size, 0, none⟩ = some (.int .i64 1) ∧ w'.cell? ⟨w2.heap.size, 1, none⟩ = some (.int .i64 x) ∧ w'.cell? ⟨w2.heap.size, 2, none⟩ = some (.int .i64 50) ∧ w'.cell? ⟨w2.heap.size, 3, none⟩ = some (.int .i64 3) ∧ w'.cell? ⟨w2.heap.size, 4, none⟩ = some (.int .i64 1) ∧ w'.cell? ⟨w2.heap.size, 5, none⟩ = some (.slice none 0 0) ∧ w'.cell? ⟨w2.heap.size, 6, none⟩ = some (.slice none 0 0) ∧ w'.cell? ⟨w2.heap.size, 7, none⟩ = some (.slice none 0 0) ∧ w'.cell? ⟨w2.heap.size + 1, 0, none⟩ = some (.int .i64 1) ∧ w'.cell? ⟨w2.heap.size + 1, 1, none⟩ = some (.int .i64 y) ∧ w'.cell? ⟨w2.heap.size + 1, 2, none⟩ = some (.int .i64 50) ∧ w'.cell? ⟨w2.heap.size + 1, 3, none⟩ = some (.int .i64 3) ∧ w'.cell? ⟨w2.heap.size + 1, 4, none⟩ = some (.int .i64 2) ∧ w'.cell? ⟨w2.heap.size + 1, 5, none⟩ = some (.slice none 0 0) ∧ w'.cell? ⟨w2.heap.size + 1, 6, none⟩ = some (.slice none 0 0) ∧ w'.cell? ⟨w2.heap.size + 1, 7, none⟩ = some (.slice none 0 0))
      ((refine KS.out _ ?_; first | exact (Fr.refl _ w3).drew | exact HK5.out | exact HK6.out | exact Fr.refl _ w3 | exact HK5.out.drew | exact ((Fr.refl _ w3).drew).drew))
      ((go_at_call 11
        refine (PUTX.out _ _ (by first | exact .inl ⟨rfl, (Fr.refl _ w3).drew⟩ | exact .inl ⟨rfl, Fr.refl _ w3⟩ | exact .inl ⟨rfl, ((Fr.refl _ w3).drew).drew⟩ | exact .inr ⟨rfl, _, HT5.out⟩ | exact .inr ⟨rfl, _, HT5.out.keep ((Fr.refl No w5).drew)⟩)).mono ?_
        first
          | (rintro en w5 ⟨hh, _⟩
             obtain ⟨nv5, rfl, t5, f5⟩ := hh rfl
             have HT5 := hid t5
             have HK5 := hid (show Fr (fun z => z = bb) w3 w5 from Fr.trans (S := fun z => z = bb) (by first | exact (Fr.refl _ w3).drew | exact Fr.refl _ w3 | exact ((Fr.refl _ w3).drew).drew) f5 (fun x _ h => h))
             clear t5 f5 hh)
          | (rintro en w6 ⟨_, hh⟩
             obtain ⟨nv6, rfl, t6, f6⟩ := hh rfl
             have HT6 := hid t6
             have HK6 := hid (show Fr (fun z => z = bb) w3 w6 from HK5.out.trans (Fr.trans (S := fun z => z = bb) (by first | exact Fr.refl _ w5 | exact (Fr.refl _ w5).drew) f6 (fun x _ h => h)) (fun x _ h => h))
             clear t6 f6 hh)))
    all_goals
      have HFW := hid (HF3.out.fresh HK6.out (fun z e => by rw [e]; exact HSB.out))
      go_wp2_with fail
      refine (get_yes HT6.out 1 3 0 (by unfold has; rw [getE_same, wasE_same]; simp)).mono ?_
      rw [wasE_same]
      rintro en w7 ⟨A7, c7, rfl, f7⟩
      dsimp only [List.length_nil]
      have HT7 := hid ((HT6.out.keep f7).keep ((Fr.refl No w7).alloc (.cells #[.int .i64 3, .int .i64 2, .slice none 0 0, .slice none 0 0, .slice A7 0 c7] 26)))
      have HF7 := hid ((HFW.out.fresh_no f7).alloc (.cells #[.int .i64 3, .int .i64 2, .slice none 0 0, .slice none 0 0, .slice A7 0 c7] 26))
      clear f7
      go_wp2_with fail
      refine (len_c HT7.out).mono ?_
      rintro en wx ⟨rfl, rfl⟩
      go_wp2_with fail
      refine (awake_c _).mono ?_
      rintro en w8 ⟨rfl, f8⟩
      have HF8 := hid (HF7.out.fresh_no f8)
      go_wp2_with fail
      go_ret
      exact ⟨rfl, HF8.out⟩
end Go.Proofs.Ytfmoagpfgkokcaa
