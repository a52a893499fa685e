import Derived.Test.YtfmoagpfgkokcaaGJ
/-! Entries of the laws' own; the layer's examples. -/
namespace Go.Proofs.Ytfmoagpfgkokcaa
open Go.RowKit
set_option linter.unusedVariables false
set_option linter.unusedSimpArgs false

def lit (ver ep till fn regs : Int) (cv xv : Value) (ns : List (Int × Int)) (nv : Value) : Ev := ⟨ver, ep, till, fn, regs, [], cv, [], xv, ns, nv⟩
theorem lit_ok (w : World) (ver ep till fn regs z : Int) : (lit ver ep till fn regs (.slice none 0 0) (.slice none 0 0) [(z, 0)] (.slice (some ⟨w.heap.size, 0, none⟩) 1 1)).ok (w.alloc (.cells #[.int .i64 z, .int .u32 0] 48)) := by
  refine ⟨⟨some ⟨w.heap.size, 0, none⟩, 1, rfl, Nat.le_refl _, rfl, fun _ => ⟨w.heap.size, 0, rfl, by simp, fun j u hu => ?_⟩⟩, by show 1 * 16 ≤ _; decide, RdS.nil _, by show 0 * 56 ≤ _; decide, RdX.nil _, by show 0 * 24 ≤ _; decide⟩
  have h := (Blk.new w 48 #[.int .i64 z, .int .u32 0]).cell j
  rw [Nat.zero_add, h]
  simpa [ncells, rows, ncell, lit] using hu
set_option maxRecDepth 100000 in
set_option maxHeartbeats 1000000 in
theorem entry_c (w : World) (ep : Int) : Calls Try.prog 29 #[.int .i64 ep] w fun en w' => ∃ nv, en = .returned (lit 1 ep 9 2 0 (.slice none 0 0) (.slice none 0 0) [(0, 0)] nv).val ∧ (lit 1 ep 9 2 0 (.slice none 0 0) (.slice none 0 0) [(0, 0)] nv).ok w' ∧ Fr No w w' := by
  go_enter Try.func29, Try.ntmps29
  go_wp2_with fail
  refine ⟨rfl, ?_⟩
  refine ⟨(lit 1 ep 9 2 0 (.slice none 0 0) (.slice none 0 0) [(0, 0)] (.slice (some ⟨w.heap.size + 1, 0, none⟩) 1 1)).val, ?_, ?_⟩
  · have hres : Try.f29.results = #[.cell 2 28] := rfl
    simp [results, hres, asAddr]
    try go_simp
    try rfl
  · refine ⟨.slice (some ⟨w.heap.size + 1, 0, none⟩) 1 1, rfl, ?_, ((Fr.refl No w).alloc _).alloc _⟩
    have hs : (w.alloc (.cells #[.int .i64 1, .int .i64 ep, .int .i64 9, .int .i64 2, .int .i64 0, .slice none 0 0, .slice none 0 0, .slice (some ⟨w.heap.size + 1, 0, none⟩) 1 1] 28)).heap.size = w.heap.size + 1 := by simp
    have h := lit_ok (w.alloc (.cells #[.int .i64 1, .int .i64 ep, .int .i64 9, .int .i64 2, .int .i64 0, .slice none 0 0, .slice none 0 0, .slice (some ⟨w.heap.size + 1, 0, none⟩) 1 1] 28)) 1 ep 9 2 0 0
    rw [hs] at h
    exact h
/-- what a Put leaves, told apart -/
theorem put_ok {w : World} {g b fb : Nat} {ms : List (K2 × Ev)} {fs : List (Int × Int)} (h : IsC w g b fb ms fs) (e : Ev) (he : e.ok w) (hb : belowB fs e = false) (hl : elder e ms = false) :
    Calls Try.prog 11 #[.pointer (some ⟨g, 0, none⟩), e.val] w fun en w' => ∃ cv' xv' nv', en = .returned (.bool true) ∧ IsC w' g b fb (putE (e.ver, e.fn) ⟨e.ver, e.ep, e.till, e.fn, e.regs, e.code, cv', e.exits, xv', e.needs, nv'⟩ ms) fs ∧ CopyAt w.heap.size w' e.code e.exits e.needs cv' xv' nv' ∧ Fr (fun x => x = b) w w' := by
  refine (put_c h e he).mono ?_
  rintro en w' ⟨r, rfl, hr, _, h1⟩
  rw [hb, hl] at hr
  subst hr
  obtain ⟨cv', xv', nv', hc, hk, hf⟩ := h1 rfl
  exact ⟨cv', xv', nv', rfl, hc, hk, hf⟩
theorem put_no {w : World} {g b fb : Nat} {ms : List (K2 × Ev)} {fs : List (Int × Int)} (h : IsC w g b fb ms fs) (e : Ev) (he : e.ok w) (hb : (belowB fs e || elder e ms) = true) :
    Calls Try.prog 11 #[.pointer (some ⟨g, 0, none⟩), e.val] w fun en w' => en = .returned (.bool false) ∧ Fr No w w' := by
  refine (put_c h e he).mono ?_
  rintro en w' ⟨r, rfl, hr, h0, _⟩
  rw [hb] at hr
  subst hr
  exact ⟨rfl, h0 rfl⟩
theorem get_yes {w : World} {g b fb : Nat} {ms : List (K2 × Ev)} {fs : List (Int × Int)} (h : IsC w g b fb ms fs) (ver fn tick : Int) (hh : has (ver, fn) tick ms = true) :
    Calls Try.prog 12 #[.pointer (some ⟨g, 0, none⟩), .int .i64 ver, .int .i64 fn, .int .i64 tick] w fun en w' => ∃ cv' xv' nv', en = .returned (.tuple #[.agg #[.int .i64 (wasE (ver, fn) ms).fn, .int .i64 (wasE (ver, fn) ms).regs, cv', xv', nv'], .bool true]) ∧ CopyAt w.heap.size w' (wasE (ver, fn) ms).code (wasE (ver, fn) ms).exits (wasE (ver, fn) ms).needs cv' xv' nv' ∧ Fr No w w' := by
  refine (get_c h ver fn tick).mono ?_
  rintro en w' (⟨_, ⟨cv', xv', nv', rfl, ho⟩, hf⟩ | ⟨h0, _⟩)
  · exact ⟨cv', xv', nv', rfl, ho, hf⟩
  · rw [hh] at h0; cases h0
theorem get_no {w : World} {g b fb : Nat} {ms : List (K2 × Ev)} {fs : List (Int × Int)} (h : IsC w g b fb ms fs) (ver fn tick : Int) (hh : has (ver, fn) tick ms = false) :
    Calls Try.prog 12 #[.pointer (some ⟨g, 0, none⟩), .int .i64 ver, .int .i64 fn, .int .i64 tick] w fun en w' => en = .returned (.tuple #[zeroFast, .bool false]) ∧ Fr No w w' := by
  refine (get_c h ver fn tick).mono ?_
  rintro en w' (⟨h0, _⟩ | ⟨_, he, hf⟩)
  · rw [hh] at h0; cases h0
  · exact ⟨he, hf⟩
set_option maxRecDepth 100000 in
set_option maxHeartbeats 2000000 in
theorem awake_c (w : World) : Calls Try.prog 14 #[] w (RetT w) := by
  go_enter Try.func14, Try.ntmps14
  go_wp2_with fail
  refine (new_c _).mono ?_
  rintro en w1 ⟨g, b, fb, rfl, t1, f1, sg, sb, sfb⟩
  have HT1 := hid t1
  have HF1 := hid f1
  have HSB := hid sb
  have HSF := hid sfb
  clear t1 f1 sg sb sfb
  go_wp2_with fail
  refine (entry_c _ 3).mono ?_
  rintro en w2 ⟨nv, rfl, ok2, f2⟩
  have HT2 := hid (HT1.out.keep f2)
  have HF2 := hid (HF1.out.fresh_no f2)
  have HOK2 := hid ok2
  clear f2 ok2
  rw [show (lit 1 3 9 2 0 (.slice none 0 0) (.slice none 0 0) [(0, 0)] nv).val = .agg (lit 1 3 9 2 0 (.slice none 0 0) (.slice none 0 0) [(0, 0)] nv).cells from rfl]
  go_wp2_with fail
  refine (put_ok HT2.out (lit 1 3 9 2 0 (.slice none 0 0) (.slice none 0 0) [(0, 0)] nv) HOK2.out rfl rfl).mono ?_
  rintro en w3 ⟨cv3, xv3, nv3, rfl, t3, _, f3⟩
  have HT3 := hid (show IsC w3 g b fb [((1, 2), (lit 1 3 9 2 0 cv3 xv3 [(0, 0)] nv3))] [] from t3)
  have HF3 := hid (HF2.out.fresh f3 (fun x e => by rw [e]; exact HSB.out))
  clear t3 f3
  go_wp2_with fail
  refine (get_yes HT3.out 1 2 8 rfl).mono ?_
  rintro en w4 ⟨cv4, xv4, nv4, rfl, cp4, f4⟩
  obtain ⟨A4, c4, rfl, _, _⟩ := cp4.nd.slice
  obtain ⟨Ad4, cd4, rfl, _, _⟩ := cp4.cd.slice
  obtain ⟨_, _, ⟨Ay4, cy4, rfl, _⟩, _⟩ := cp4.ex.ex
  clear cp4
  have HT4 := hid ((HT3.out.keep f4).keep ((Fr.refl No w4).alloc (.cells #[.int .i64 2, .int .i64 0, .slice Ad4 0 cd4, .slice Ay4 0 cy4, .slice A4 1 c4] 26)))
  have HF4 := hid ((HF3.out.fresh_no f4).alloc (.cells #[.int .i64 2, .int .i64 0, .slice Ad4 0 cd4, .slice Ay4 0 cy4, .slice A4 1 c4] 26))
  have HM4 := hid (Blk.new w4 26 #[.int .i64 2, .int .i64 0, .slice Ad4 0 cd4, .slice Ay4 0 cy4, .slice A4 1 c4])
  clear f4
  rw [show (Value.agg #[.int .i64 (wasE (1, 2) [((1, 2), (lit 1 3 9 2 0 cv3 xv3 [(0, 0)] nv3))]).fn, .int .i64 (wasE (1, 2) [((1, 2), (lit 1 3 9 2 0 cv3 xv3 [(0, 0)] nv3))]).regs, .slice Ad4 (wasE (1, 2) [((1, 2), (lit 1 3 9 2 0 cv3 xv3 [(0, 0)] nv3))]).code.length cd4, .slice Ay4 (wasE (1, 2) [((1, 2), (lit 1 3 9 2 0 cv3 xv3 [(0, 0)] nv3))]).exits.length cy4, .slice A4 (wasE (1, 2) [((1, 2), (lit 1 3 9 2 0 cv3 xv3 [(0, 0)] nv3))]).needs.length c4]) = .agg #[.int .i64 2, .int .i64 0, .slice Ad4 0 cd4, .slice Ay4 0 cy4, .slice A4 1 c4] from rfl]
  go_wp2_with fail
  refine (get_no HT4.out 1 2 9 rfl).mono ?_
  rintro en w5 ⟨rfl, f5⟩
  have HT5 := hid ((HT4.out.keep f5).keep ((Fr.refl No w5).alloc (.cells #[.int .i64 0, .int .i64 0, .slice none 0 0, .slice none 0 0, .slice none 0 0] 26)))
  have HF5 := hid ((HF4.out.fresh_no f5).alloc (.cells #[.int .i64 0, .int .i64 0, .slice none 0 0, .slice none 0 0, .slice none 0 0] 26))
  have m0 := ((HM4.out.keep f5 (not_no _)).alloc (.cells #[.int .i64 0, .int .i64 0, .slice none 0 0, .slice none 0 0, .slice none 0 0] 26)).cell 0
  clear f5 HM4
  unfold zeroFast
  go_wp2_with fail
  refine (revoke_c HT5.out 0 4 (by show 1 ≤ 1000000; decide)).mono ?_
  rintro en w6 ⟨rfl, t6, f6⟩
  have HT6 := hid (show IsC w6 g b fb [] [(0, 4)] from t6)
  have HF6 := hid (HF5.out.fresh f6 (fun x e => by rcases e with e | e <;> rw [e]; exact HSB.out; exact HSF.out))
  have hv : ((([((1, 2), (lit 1 3 9 2 0 cv3 xv3 [(0, 0)] nv3))] : List (K2 × Ev)).length : Int) - (([((1, 2), (lit 1 3 9 2 0 cv3 xv3 [(0, 0)] nv3))] : List (K2 × Ev)).filter (fun p => !belowB (putF 0 (max (floorOf 0 []) 4) []) p.2)).length) = 1 := rfl
  rw [hv]
  clear t6 f6 hv
  go_wp2_with fail
  refine (entry_c _ 3).mono ?_
  rintro en w7 ⟨nv7, rfl, ok7, f7⟩
  have HT7 := hid (HT6.out.keep f7)
  have HF7 := hid (HF6.out.fresh_no f7)
  have HOK7 := hid ok7
  clear f7 ok7
  rw [show (lit 1 3 9 2 0 (.slice none 0 0) (.slice none 0 0) [(0, 0)] nv7).val = .agg (lit 1 3 9 2 0 (.slice none 0 0) (.slice none 0 0) [(0, 0)] nv7).cells from rfl]
  go_wp2_with fail
  refine (put_no HT7.out (lit 1 3 9 2 0 (.slice none 0 0) (.slice none 0 0) [(0, 0)] nv7) HOK7.out rfl).mono ?_
  rintro en w8 ⟨rfl, f8⟩
  have HT8 := hid (HT7.out.keep f8)
  have HF8 := hid (HF7.out.fresh_no f8)
  clear f8
  go_wp2_with fail
  refine (entry_c _ 4).mono ?_
  rintro en w9 ⟨nv9, rfl, ok9, f9⟩
  have HT9 := hid (HT8.out.keep f9)
  have HF9 := hid (HF8.out.fresh_no f9)
  have HOK9 := hid ok9
  clear f9 ok9
  rw [show (lit 1 4 9 2 0 (.slice none 0 0) (.slice none 0 0) [(0, 0)] nv9).val = .agg (lit 1 4 9 2 0 (.slice none 0 0) (.slice none 0 0) [(0, 0)] nv9).cells from rfl]
  go_wp2_with fail
  refine (put_ok HT9.out (lit 1 4 9 2 0 (.slice none 0 0) (.slice none 0 0) [(0, 0)] nv9) HOK9.out rfl rfl).mono ?_
  rintro en w10 ⟨cv10, xv10, nv10, rfl, t10, _, f10⟩
  have HT10 := hid (show IsC w10 g b fb [((1, 2), (lit 1 4 9 2 0 cv10 xv10 [(0, 0)] nv10))] [(0, 4)] from t10)
  have HF10 := hid (HF9.out.fresh f10 (fun x e => by rw [e]; exact HSB.out))
  clear t10 f10
  go_wp2_with fail
  refine (len_c HT10.out).mono ?_
  rintro en wx ⟨rfl, rfl⟩
  go_wp2_with fail
  go_ret
  exact ⟨rfl, HF10.out⟩
end Go.Proofs.Ytfmoagpfgkokcaa
