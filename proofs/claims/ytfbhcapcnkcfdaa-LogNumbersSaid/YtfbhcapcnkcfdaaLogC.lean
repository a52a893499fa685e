import Derived.Test.YtfbhcapcnkcfdaaLogB
import Derived.Deep.RegionLaw
import Derived.BigRegion
import Derived.StillTailTactics
/-! The contracts of package log: Add. -/
namespace Go.Proofs.Ytfbhcapcnkcfdaa
open Go.RowKit
set_option linter.unusedVariables false
set_option linter.unusedSimpArgs false

/-- a call of a function of one argument, as one step of a region that draws -/
theorem step_fn {P : Program} {ops : Array Oper} {o : Oper} {a : Act} {w : World} {K : Act → World → Prop} {Q : Exit → Act → World → Prop} {E : Prop} (hgd : o.guard = none) (f : FuncId) (x : Operand) (t : TypeId)
    (ho : o.op = .call { callee := .value (.func f), args := #[x], argTypes := #[t] }) (v : Value) (hx : a.eval x = v) (R : Value → World → Prop)
    (hc : Calls P f #[v] w fun e w' => ∃ r, e = .returned r ∧ R r w') (hcf : (callFunc f #[v]).run P w = .ok (.enter f #[v]) w) (h : ∀ r w', R r w' → K (a.put o.dst r) w') :
    if Region.wanted o (yielded ops a.tmps) = true then Oper.wp P o a w K Q else E := by
  have hw : Region.wanted o (yielded ops a.tmps) = true := by simp [Region.wanted, hgd]
  rw [if_pos hw]
  have he : (execOp a.eval o).run P w = .ok (.enter f #[v]) w := by
    have hf : a.eval (.func f) = .func (.func f) #[] #[] := rfl
    simp [execOp, ho, resolve, invoke, hx, hf, Deferred.ofValue, hcf]
  unfold Oper.wp
  rw [he, Oper.upon_enter]
  refine hc.mono ?_
  rintro e w' ⟨r, rfl, hr⟩
  exact h r w' hr
/-- a call of a function of two arguments, as one step of a region that draws -/
theorem step_fn2 {P : Program} {ops : Array Oper} {o : Oper} {a : Act} {w : World} {K : Act → World → Prop} {Q : Exit → Act → World → Prop} {E : Prop} (hgd : o.guard = none) (f : FuncId) (x y : Operand) (t t2 : TypeId)
    (ho : o.op = .call { callee := .value (.func f), args := #[x, y], argTypes := #[t, t2] }) (v v2 : Value) (hx : a.eval x = v) (hy : a.eval y = v2) (R : Value → World → Prop)
    (hc : Calls P f #[v, v2] w fun e w' => ∃ r, e = .returned r ∧ R r w') (hcf : (callFunc f #[v, v2]).run P w = .ok (.enter f #[v, v2]) w) (h : ∀ r w', R r w' → K (a.put o.dst r) w') :
    if Region.wanted o (yielded ops a.tmps) = true then Oper.wp P o a w K Q else E := by
  have hw : Region.wanted o (yielded ops a.tmps) = true := by simp [Region.wanted, hgd]
  rw [if_pos hw]
  have he : (execOp a.eval o).run P w = .ok (.enter f #[v, v2]) w := by
    have hf : a.eval (.func f) = .func (.func f) #[] #[] := rfl
    simp [execOp, ho, resolve, invoke, hx, hy, hf, Deferred.ofValue, hcf]
  unfold Oper.wp
  rw [he, Oper.upon_enter]
  refine hc.mono ?_
  rintro e w' ⟨r, rfl, hr⟩
  exact h r w' hr

/-- what Add does: the disk then, the log then, the error -/
def addL (d : DSt) (l : LSt) (rec : List UInt8) : DSt × LSt × Nat :=
  if rec.length = 0 then (d, l, 2)
  else if 1048576 < rec.length then (d, l, 3)
  else if l.over then (d, l, 15)
  else if (appendD d (recB rec)).2 = 0 then
    (if (syncD (appendD d (recB rec)).1).2 = 0 then ((syncD (appendD d (recB rec)).1).1, ⟨l.n + 1, l.bytes + (recB rec).length, l.over⟩, 0)
     else ((syncD (appendD d (recB rec)).1).1, ⟨l.n, l.bytes, (syncD (appendD d (recB rec)).1).2 != 5⟩, (syncD (appendD d (recB rec)).1).2))
  else ((appendD d (recB rec)).1, ⟨l.n, l.bytes, (appendD d (recB rec)).2 != 5⟩, (appendD d (recB rec)).2)
def RetAdd (w : World) (g : Nat) (v : Value) (gl : Nat) (r : DSt × LSt × Nat) : Ending → World → Prop := fun en w' => ∃ v', en = .returned (.int .i64 r.2.2) ∧ IsDisk w' g v' r.1 ∧ IsLog w' gl g r.2.1 ∧ Fr (fun k => Its g v k ∨ k = gl) w w' ∧ Grows w (Of v) v'

set_option maxHeartbeats 1000000 in
theorem add1_c {w : World} {g gl : Nat} {v : Value} {d : DSt} {l : LSt} (h : IsDisk w g v d) (hlg : IsLog w gl g l) (y : Value) (xs : List UInt8) (hy : RdB w y xs) (hyg : 0 < xs.length → ∀ k, Of y k → ¬ Its g v k) (hyl : xs.length ≤ 140737488000000) (pl pb : Nat)
    (h1 : w.cell? ⟨pl, 0, none⟩ = some (.pointer (some ⟨gl, 0, none⟩))) (h2 : w.cell? ⟨pb, 0, none⟩ = some y) (r : DSt × Nat) (hr : appendD d xs = r) :
    Calls Try.prog 37 #[.pointer (some ⟨pl, 0, none⟩), .pointer (some ⟨pb, 0, none⟩)] w (RetD w g v r) := by
  obtain ⟨A, c, rfl, hc⟩ := hy.slice
  have H := hid h
  have HY := hid hy
  have HYG := hid hyg
  have HYL := hid hyl
  have HR := hid hr
  obtain ⟨k0, k1, k2, k3, kf⟩ := Blk.fours hlg
  clear h hy hyg hyl hr hlg
  go_enter Try.func37, Try.ntmps37
  go_wp2_with fail
  refine wp_region_still_tail 5 (by kernel_rfl) (by kernel_rfl) ?_
  simp only [List.take_succ_cons, List.take_zero, List.drop_succ_cons, List.drop_zero]
  repeat still_step
  refine wpStill_nil ?_
  change wpList _ _ _ _ _ w.drew
  go_wp2_with fail
  refine (append_c (H.out.keep_no ((Fr.refl No w).drew)) _ xs (HY.out.too ((Fr.refl No w).drew)) HYG.out HYL.out r HR.out).mono ?_
  rintro e w1 ⟨v1, rfl, I, F, G⟩
  have HI := hid I
  have HF := hid F
  have HG := hid G
  clear I F G
  go_wp2_with fail
  go_ret
  exact ⟨v1, rfl, HI.out, ((Fr.refl (Its g v) w).drew).trans HF.out (fun _ _ h => h), HG.out⟩

theorem Blk.two {w : World} {g : Nat} {t : TypeId} {a b : Value} (h : Blk w g t #[a, b]) : w.cell? ⟨g, 0, none⟩ = some a ∧ w.cell? ⟨g, 1, none⟩ = some b ∧ ∀ i, w.frozen? ⟨g, i, none⟩ = false := ⟨h.cell 0, h.cell 1, h.frozen⟩
theorem four_x (v : Value) (xs : List UInt8) (x : Int) (n : Nat) (hx : x = n) (hn : n < 4294967296) (w : World) (h : OwnB 5 w v xs) (hb : xs.length ≤ 140737488355000) :
    Calls Try.prog 35 #[v, .int .u32 x] w (RetB w (Of v) (xs ++ four n)) := by subst hx; exact four_c v xs n hn w h hb

/-- how Add stands: i of the two operations are done -/
structure InAdd (w w' : World) (g gl : Nat) (v v' : Value) (d d' : DSt) (l : LSt) (X : List UInt8) (bl bb bf : Nat) (y : Value) (i : Nat) : Prop where
  disk : IsDisk w' g v' d'
  log : IsLog w' gl g l
  box : Blk w' bl 23 #[.pointer (some ⟨gl, 0, none⟩)]
  row : Blk w' bb 22 #[y]
  fns : Blk w' bf 70 #[.func (.func 37) #[] #[.pointer (some ⟨bl, 0, none⟩), .pointer (some ⟨bb, 0, none⟩)], .func (.func 38) #[.pointer (some ⟨g, 0, none⟩)] #[]]
  own : OwnB 5 w' y X
  fr : Fr (Its g v) w w'
  grows : Grows w (Of v) v'
  far : ∀ k, Of y k → ¬ Its g v' k
  at_ : (i = 0 ∧ d' = d) ∨ (i = 1 ∧ appendD d X = (d', 0)) ∨ (i = 2 ∧ ∃ d1, appendD d X = (d1, 0) ∧ syncD d1 = (d', 0))
theorem InAdd.turn {w w1 w2 : World} {g gl : Nat} {v v1 : Value} {d d1 : DSt} {l : LSt} {X : List UInt8} {bl bb bf : Nat} {y : Value} {i : Nat} (h : InAdd w w1 g gl v v1 d d1 l X bl bb bf y i) {r : DSt × Nat} {en : Ending} (hr : RetD w1 g v1 r en w2) :
    ∃ v2, en = .returned (.int .i64 r.2) ∧ IsDisk w2 g v2 r.1 ∧ IsLog w2 gl g l ∧ Blk w2 bl 23 #[.pointer (some ⟨gl, 0, none⟩)] ∧ Fr (Its g v) w w2 ∧ Grows w (Of v) v2 ∧
      ∀ j, ((j = 1 ∧ appendD d X = (r.1, 0)) ∨ (j = 2 ∧ ∃ d1, appendD d X = (d1, 0) ∧ syncD d1 = (r.1, 0))) → InAdd w w2 g gl v v2 d r.1 l X bl bb bf y j := by
  obtain ⟨v2, he, hd, hf, hg⟩ := hr
  have hne : ∀ (b : Nat) (t : TypeId) (cs : Array Value), Blk w1 b t cs → 77 ≠ t → 5 ≠ t → ¬ Its g v1 b := fun b t cs hb h1 h2 hi => by
    rcases hi with e | hk
    · exact h.disk.blk.ne_ (e ▸ hb) h1 rfl
    · exact h.disk.own.ne_ hb h2 hk
  have hI : ∀ k, k < w.heap.size → Its g v1 k → Its g v k := fun k hk hi => by
    rcases hi with e | hi
    · exact .inl e
    · rcases h.grows k hi with h1 | h1
      · exact .inr h1
      · omega
  have F2 : Fr (Its g v) w w2 := h.fr.trans hf hI
  have G2 : Grows w (Of v) v2 := h.grows.trans hg h.fr.size
  have L2 : IsLog w2 gl g l := Blk.keep h.log hf (hne gl _ _ h.log (by decide) (by decide))
  have B2 := h.box.keep hf (hne bl _ _ h.box (by decide) (by decide))
  refine ⟨v2, he, hd, L2, B2, F2, G2, fun j hj => ⟨hd, L2, B2, h.row.keep hf (hne bb _ _ h.row (by decide) (by decide)), h.fns.keep hf (hne bf _ _ h.fns (by decide) (by decide)), h.own.keep hf h.far, F2, G2, fun k hk hi => ?_, .inr hj⟩⟩
  have h0 := h.far k hk
  rcases hi with e | hi
  · exact h0 (.inl e)
  · rcases hg k hi with h1 | h1
    · exact h0 (.inr h1)
    · have := h.own.lt k hk
      omega
theorem add_err {w w2 : World} {g gl : Nat} {v v2 : Value} {d2 : DSt} {l : LSt} (hd : IsDisk w2 g v2 d2) (hl : IsLog w2 gl g l) (hf : Fr (Its g v) w w2) (hg : Grows w (Of v) v2) (b : Bool) :
    IsDisk (w2.setCell ⟨gl, 3, none⟩ (.bool b)) g v2 d2 ∧ IsLog (w2.setCell ⟨gl, 3, none⟩ (.bool b)) gl g ⟨l.n, l.bytes, b⟩ ∧ Fr (fun k => Its g v k ∨ k = gl) w (w2.setCell ⟨gl, 3, none⟩ (.bool b)) := by
  have FS : Fr (fun k => k = gl) w2 (w2.setCell ⟨gl, 3, none⟩ (.bool b)) := Fr.setCell (S := fun k => k = gl) (Fr.refl _ _) (fun _ => rfl) _
  refine ⟨hd.keep FS ?_ ?_, ?_, ((hf.mono (fun k _ h => .inl h)).trans FS (fun k _ h => .inr h))⟩
  · exact Blk.ne_ hd.blk hl (by decide)
  · exact fun k hk e => hd.own.ne_ hl (by decide) (e ▸ hk)
  · have h := hl.set_ 3 (.bool b)
    show Blk _ gl _ #[.pointer (some ⟨g, 0, none⟩), .int .i64 l.n, .int .i64 l.bytes, .bool b]
    simpa [LSt.cells] using h
theorem add_ok {w w2 : World} {g gl : Nat} {v v2 : Value} {d2 : DSt} {l : LSt} {b : Bool} {n m : Int} (hd : IsDisk w2 g v2 d2) (hl : IsLog w2 gl g l) (hf : Fr (Its g v) w w2) (hb : l.over = b) :
    IsDisk ((w2.setCell ⟨gl, 1, none⟩ (.int .i64 n)).setCell ⟨gl, 2, none⟩ (.int .i64 m)) g v2 d2 ∧ IsLog ((w2.setCell ⟨gl, 1, none⟩ (.int .i64 n)).setCell ⟨gl, 2, none⟩ (.int .i64 m)) gl g ⟨n, m, b⟩ ∧ Fr (fun k => Its g v k ∨ k = gl) w ((w2.setCell ⟨gl, 1, none⟩ (.int .i64 n)).setCell ⟨gl, 2, none⟩ (.int .i64 m)) := by
  have FS : Fr (fun k => k = gl) w2 ((w2.setCell ⟨gl, 1, none⟩ (.int .i64 n)).setCell ⟨gl, 2, none⟩ (.int .i64 m)) := Fr.setCell (S := fun k => k = gl) (Fr.setCell (S := fun k => k = gl) (Fr.refl _ _) (fun _ => rfl) _) (fun _ => rfl) _
  refine ⟨hd.keep FS ?_ ?_, ?_, ((hf.mono (fun k _ h => .inl h)).trans FS (fun k _ h => .inr h))⟩
  · exact Blk.ne_ hd.blk hl (by decide)
  · exact fun k hk e => hd.own.ne_ hl (by decide) (e ▸ hk)
  · have h := (hl.set_ 1 (.int .i64 n)).set_ 2 (.int .i64 m)
    subst hb
    show Blk _ gl _ #[.pointer (some ⟨g, 0, none⟩), .int .i64 n, .int .i64 m, .bool l.over]
    simpa [LSt.cells] using h
theorem RdB.old_ {w : World} {v : Value} {xs : List UInt8} (h : RdB w v xs) (h0 : 0 < xs.length) : ∀ k, Of v k → k < w.heap.size := by
  obtain ⟨A, c, rfl, hc, hl, hr⟩ := h
  obtain ⟨b, off, rfl, hb, _⟩ := hr h0
  intro k hk
  rw [Of_some.1 hk]
  exact hb
set_option maxRecDepth 100000 in
set_option maxHeartbeats 4000000 in
theorem add_c {w : World} {g gl : Nat} {v : Value} {d : DSt} {l : LSt} (h : IsDisk w g v d) (hlg : IsLog w gl g l) (y : Value) (rec : List UInt8) (hy : RdB w y rec) (hn1 : 0 ≤ l.n) (hn2 : l.n ≤ 4611686018427387904) (hb1 : 0 ≤ l.bytes) (hb2 : l.bytes ≤ 4611686018427387904) (r : DSt × LSt × Nat) (hr : addL d l rec = r) :
    Calls Try.prog 10 #[.pointer (some ⟨gl, 0, none⟩), y] w (RetAdd w g v gl r) := by
  obtain ⟨A, c, rfl, hc⟩ := hy.slice
  have HR := hid hr
  have HF0 := hid ((Fr.refl No w).alloc (.cells #[.pointer (some ⟨gl, 0, none⟩)] 23))
  have HB := hid (show IsDisk (w.alloc (.cells #[.pointer (some ⟨gl, 0, none⟩)] 23)) g v d ∧ IsLog (w.alloc (.cells #[.pointer (some ⟨gl, 0, none⟩)] 23)) gl g l from ⟨h.keep_no HF0.out, Blk.keep hlg HF0.out (not_no _)⟩)
  have HBOX := hid (Blk.new w 23 #[.pointer (some ⟨gl, 0, none⟩)])
  have HY := hid hy
  have HD := hid h
  have HLG := hid hlg
  obtain ⟨k0, k1, k2, k3, kf⟩ := Blk.fours HB.out.2
  clear h hlg hy hr
  by_cases c1 : rec.length = 0
  · have d1 : ((rec.length : Int) == 0) = true := by simp; exact List.eq_nil_of_length_eq_zero c1
    have hr2 : r = (d, l, 2) := by rw [← HR.out]; unfold addL; rw [if_pos c1]
    subst hr2
    clear HR
    go_enter Try.func10, Try.ntmps10
    go_wp2_with fail
    go_ret
    exact ⟨v, rfl, HB.out.1, HB.out.2, HF0.out.mono (fun k _ h => absurd h (not_no k)), Grows.self _ _⟩
  · have d1 : ((rec.length : Int) == 0) = false := by rw [beq_eq_false_iff_ne]; omega
    by_cases c2 : 1048576 < rec.length
    · have d2 : (1048576 : Int) < rec.length := by omega
      have hr2 : r = (d, l, 3) := by rw [← HR.out]; unfold addL; rw [if_neg c1, if_pos c2]
      subst hr2
      clear HR
      go_enter Try.func10, Try.ntmps10
      go_wp2_with fail
      go_ret
      exact ⟨v, rfl, HB.out.1, HB.out.2, HF0.out.mono (fun k _ h => absurd h (not_no k)), Grows.self _ _⟩
    · have d2 : ¬ (1048576 : Int) < rec.length := by omega
      obtain ⟨ln, lb, lo⟩ := l
      cases lo with
      | true =>
        replace k3 : (w.alloc (.cells #[.pointer (some ⟨gl, 0, none⟩)] 23)).cell? ⟨gl, 3, none⟩ = some (.bool true) := k3
        have hr2 : r = (d, ⟨ln, lb, true⟩, 15) := by rw [← HR.out]; unfold addL; rw [if_neg c1, if_neg c2]; rfl
        subst hr2
        clear HR
        go_enter Try.func10, Try.ntmps10
        go_wp2_with fail
        go_ret
        exact ⟨v, rfl, HB.out.1, HB.out.2, HF0.out.mono (fun k _ h => absurd h (not_no k)), Grows.self _ _⟩
      | false =>
        replace k3 : (w.alloc (.cells #[.pointer (some ⟨gl, 0, none⟩)] 23)).cell? ⟨gl, 3, none⟩ = some (.bool false) := k3
        have hlen : IntKind.u32.wrap (rec.length : Int) = rec.length := by rw [IntKind.wrap_u32]; omega
        obtain ⟨X, hX⟩ : ∃ X, recB rec = X := ⟨_, rfl⟩
        have HXR := hid hX
        have HXL := hid (show X.length = 8 + rec.length by rw [← hX, recB_length])
        clear hX
        have HWR := hid hlen
        have hrl : rec.length ≤ 140737488355328 := by omega
        have hcl := crc_lt rec
        have hx4 : ([] : List UInt8).length ≤ 140737488355000 := by simp
        have hx8 : (four rec.length).length ≤ 140737488355000 := by simp [four_length]
        have hx9 : (four rec.length ++ four (crc rec)).length + rec.length ≤ 140737488355328 := by simp [four_length]; omega
        have HRL := hid hrl
        have HCL := hid hcl
        have HX8 := hid hx8
        have HX9 := hid hx9
        have hn32 : rec.length < 4294967296 := by omega
        clear hlen hrl hcl hx8 hx9
        go_enter Try.func10, Try.ntmps10
        go_wp2_with fail
        refine (four_x (.slice none 0 0) [] _ rec.length (by first | rfl | exact HWR.out) hn32 _ (OwnB.nil _ _) hx4).mono ?_
        rintro e w1 ⟨v1, rfl, O1, F1, G1⟩
        replace O1 : OwnB 5 w1 v1 (four rec.length) := by rw [List.nil_append] at O1; exact O1
        obtain ⟨A1, c1, rfl, hc1⟩ := O1.slice
        have F01 := HF0.out.fresh_nil F1
        have HF1 := hid F01
        have HO1 := hid (O1.alloc (.cells #[.slice A1 (four rec.length).length c1] 22))
        have HG1 := hid (show ∀ k, Of (.slice A1 (four rec.length).length c1) k → w.heap.size < k from fun k hk => by
          rcases G1 k hk with h | h
          · exact absurd h Of_none
          · simp at h; omega)
        have BB1 := Blk.new w1 22 #[.slice A1 (four rec.length).length c1]
        have HBB1 := hid BB1
        obtain ⟨W, hW⟩ : ∃ W, w1.alloc (.cells #[.slice A1 (four rec.length).length c1] 22) = W := ⟨_, rfl⟩
        have HFW := hid (show Fr No w W.drew from by rw [← hW]; exact (F01.alloc _).drew)
        have HBX := hid (show Blk W.drew w.heap.size 23 #[.pointer (some ⟨gl, 0, none⟩)] from by rw [← hW]; exact ((HBOX.out.keep F1 (fun h => absurd h Of_none)).alloc _).drew)
        rw [hW] at HO1 HBB1
        clear O1 F1 G1 F01 BB1
        have bb0 := HBB1.out.cell 0
        have bbf := HBB1.out.frozen
        replace bb0 : W.cell? ⟨w1.heap.size, 0, none⟩ = some (Value.slice A1 (four rec.length).length c1) := bb0
        have HYW := hid (HY.out.too HFW.out)
        have HWW := hid hW
        clear hW
        go_wp2_with fail
        rw [HWW.out]
        go_region_law ((first
          | (refine step_fn (by rfl) 36 (.tmp 37) 22 (by rfl) (.slice A rec.length c) (by rfl) (fun u w' => u = .int .u32 (crc rec) ∧ w' = W.drew) ((crc_c _ rec W.drew HYW.out HRL.out).mono (fun e w' h => ⟨_, h.1, rfl, h.2⟩)) (by rfl) ?_
             intro uq wq hq
             obtain ⟨rfl, rfl⟩ := hq)
          | (refine step_fn2 (by rfl) 35 (.tmp 36) (.tmp 38) 22 68 (by rfl) (.slice A1 (four rec.length).length c1) (.int .u32 (crc rec)) (by rfl) (by rfl) (fun u w' => OwnB 5 w' u (four rec.length ++ four (crc rec)) ∧ Fr (Of (.slice A1 (four rec.length).length c1)) W.drew w' ∧ Grows W.drew (Of (.slice A1 (four rec.length).length c1)) u) ((four_c _ _ (crc rec) HCL.out W.drew (HO1.out.drewN 1) HX8.out).mono (fun e w' h => by obtain ⟨u, h1, h2, h3, h4⟩ := h; exact ⟨u, h1, h2, h3, h4⟩)) (by rfl) ?_
             intro v4 w4 hq4
             have HO4 := hid hq4.1
             have HF4 := hid hq4.2.1
             have HG4 := hid hq4.2.2
             clear hq4
             obtain ⟨A4, c4, rfl, hc4⟩ := HO4.out.slice
             have HBB4 := hid (Blk.keep (Blk.drew HBB1.out) HF4.out (HO1.out.ne_ HBB1.out (by decide)))
             have HY4 := hid (HYW.out.keep_ HF4.out (fun h0 k hk hk2 => by have h1 := HY.out.old_ h0 k hk; have h2 := HG1.out k hk2; omega)))
          | (refine step_appB _ (by rfl) (.tmp 39) (.tmp 40) 22 (by rfl) 5 Try.underlying22 infoU8 (.slice A4 (four rec.length ++ four (crc rec)).length c4) (four rec.length ++ four (crc rec)) (by rfl) HO4.out (.slice A rec.length c) rec (by rfl) HY4.out HX9.out ?_
             intro v5 w5 o5 f5 g5
             have o6 : OwnB 5 w5 v5 X := by
               have h := o5.out
               rw [List.append_assoc] at h
               rw [← HXR.out]
               exact h
             obtain ⟨A5, c5, rfl, hc5⟩ := o6.slice
             have HO5 := hid o6
             have HF5 := hid f5.out
             have HG5 := hid g5.out
             clear o5 o6 f5 g5
             have HBB5 := hid (HBB4.out.keep HF5.out (HO4.out.ne_ HBB4.out (by decide)))
             have bb5f := HBB5.out.frozen
             have bb5 := HBB5.out.cell 0)))
        all_goals
          have FA := HFW.out.fresh HF4.out (fun k hk => Nat.le_of_lt (HG1.out k hk))
          have hv4 : ∀ k, Of (.slice A4 (four rec.length ++ four (crc rec)).length c4) k → w.heap.size < k := fun k hk => by
            rcases HG4.out k hk with h | h
            · exact HG1.out k h
            · exact Nat.lt_of_lt_of_le HBX.out.lt h
          have FB := FA.fresh HF5.out (fun k hk => Nat.le_of_lt (hv4 k hk))
          have FS : Fr (fun k => k = w1.heap.size) w5 (w5.setCell ⟨w1.heap.size, 0, none⟩ (.slice A5 X.length c5)) := Fr.setCell (S := fun k => k = w1.heap.size) (Fr.refl _ _) (fun _ => rfl) _
          have FC := FB.fresh FS (fun k e => by rw [e]; exact HF1.out.size)
          have hv5 : ∀ k, Of (.slice A5 X.length c5) k → w.heap.size ≤ k := fun k hk => by
            rcases HG5.out k hk with h | h
            · exact Nat.le_of_lt (hv4 k h)
            · exact Nat.le_trans FA.size h
          have hbx4 := HBX.out.keep HF4.out (fun h => absurd (HG1.out _ h) (Nat.lt_irrefl _))
          have hbx5 := hbx4.keep HF5.out (fun h => absurd (hv4 _ h) (Nat.lt_irrefl _))
          have hbx6 := hbx5.keep FS (Blk.ne_ hbx5 HBB5.out (by decide))
          have hrow6 : Blk (w5.setCell ⟨w1.heap.size, 0, none⟩ (.slice A5 X.length c5)) w1.heap.size 22 #[.slice A5 X.length c5] := by
            have h := HBB5.out.set_ 0 (.slice A5 X.length c5)
            simpa using h
          have hown6 := HO5.out.keep FS (fun k hk e => HO5.out.ne_ HBB5.out (by decide) (e ▸ hk))
          have FD := (Fr.refl No (w5.setCell ⟨w1.heap.size, 0, none⟩ (.slice A5 X.length c5))).alloc (.cells #[.func (.func 37) #[] #[.pointer (some ⟨w.heap.size, 0, none⟩), .pointer (some ⟨w1.heap.size, 0, none⟩)], .func (.func 38) #[.pointer (some ⟨g, 0, none⟩)] #[]] 70)
          have FE := FC.fresh_no FD
          have I0 := hid (show InAdd w _ g gl v v d d ⟨ln, lb, false⟩ X w.heap.size w1.heap.size (w5.setCell ⟨w1.heap.size, 0, none⟩ (.slice A5 X.length c5)).heap.size (.slice A5 X.length c5) 0 from
            ⟨HD.out.keep_no FE, Blk.keep HLG.out FE (not_no _), hbx6.keep FD (not_no _), hrow6.keep FD (not_no _), Blk.new _ _ _, hown6.keep FD (fun k _ => not_no k), FE.mono (fun k _ h => absurd h (not_no k)), Grows.self _ _,
              fun k hk hi => by
                have h1 := hv5 k hk
                rcases hi with e | hi
                · have := HD.out.lt; omega
                · have := HD.out.own.lt k hi; omega, .inl ⟨rfl, rfl⟩⟩)
          have h6 := Blk.keep HLG.out FC (not_no _)
          obtain ⟨m0, m1, m2, m3, mf⟩ := Blk.fours h6
          have hbx0 := hbx6.cell 0
          replace hbx0 : (w5.setCell ⟨w1.heap.size, 0, none⟩ (.slice A5 X.length c5)).cell? ⟨w.heap.size, 0, none⟩ = some (.pointer (some ⟨gl, 0, none⟩)) := hbx0
          clear FA hv4 FB FS FC hv5 hbx4 hbx5 hbx6 hrow6 hown6 FD FE h6 HO5 HF5 HG5 HBB5 HO4 HF4 HG4 HBB4 HY4 bb5 bb5f bb0 bbf k0 k1 k2 k3 kf HBX HBB1 HO1 HG1 HYW HFW HWW
          generalize w5.setCell ⟨w1.heap.size, 0, none⟩ (.slice A5 X.length c5) = w6 at *
          go_wp2_with fail
          go_loopg [50] 2 (fun q v50 w' => ∃ (i : Nat) (v' : Value) (d' : DSt), v50 = .int .i64 i ∧ i ≤ 2 ∧ Hid (q = 2 - i) ∧ Hid (InAdd w w' g gl v v' d d' ⟨ln, lb, false⟩ X w.heap.size w1.heap.size w6.heap.size (.slice A5 X.length c5) i))
          case atStart => exact ⟨0, v, d, rfl, by omega, rfl, I0⟩
          case round =>
            clear I0 m0 m1 m2 m3 mf hbx0
            obtain ⟨i, v', d', rfl, hi, HQ, I⟩ := hrel
            obtain ⟨fn0, fn1, fnf⟩ := Blk.two I.out.fns
            have hxl : X.length ≤ 140737488000000 := by have := HXL.out; omega
            have HFAR := hid I.out.far
            rcases (show i = 0 ∨ i = 1 ∨ i = 2 by omega) with rfl | rfl | rfl
            · obtain ⟨⟨q1, q2⟩, hq⟩ : ∃ q, appendD d X = q := ⟨_, rfl⟩
              have hd : d' = d := by
                rcases I.out.at_ with h | h | h
                · exact h.2
                · exact absurd h.1 (by decide)
                · exact absurd h.1 (by decide)
              subst hd
              have HQQ := hid hq
              have HXLL := hid hxl
              clear hq hxl
              go_wp2_with fail
              refine (add1_c I.out.disk I.out.log _ X I.out.own.rd (fun _ => HFAR.out) HXLL.out _ _ (I.out.box.cell 0) (I.out.row.cell 0) _ HQQ.out).mono ?_
              intro e w2 hr2
              obtain ⟨v2, rfl, D2, L2, B2, F2, G2, step⟩ := I.out.turn hr2
              by_cases cq : q2 = 0
              · subst cq
                have HST := hid (step 1 (.inl ⟨rfl, HQQ.out⟩))
                clear D2 L2 B2 F2 G2 step hr2
                go_wp2_with fail
                go_roundg (2 - 1)
                case measure => have := HQ.out; omega
                case rel => exact ⟨1, v2, q1, by go_num, by omega, rfl, HST⟩
              · have hb : ((q2 : Int) != 0) = true := by rw [bne_iff_ne]; omega
                obtain ⟨m0, m1, m2, m3, mf⟩ := Blk.fours L2
                have bx0 := B2.cell 0
                replace bx0 : w2.cell? ⟨w.heap.size, 0, none⟩ = some (Value.pointer (some ⟨gl, 0, none⟩)) := bx0
                have HE := hid (fun b : Bool => add_err (l := ⟨ln, lb, false⟩) D2 L2 F2 G2 b)
                have HG2 := hid G2
                have HC := hid cq
                clear D2 L2 B2 F2 G2 step hr2 cq
                by_cases c5' : q2 = 5
                · have h5 : ((q2 : Int) != 5) = false := by simp [c5']
                  have hr2 : r = (q1, ⟨ln, lb, false⟩, q2) := by
                    rw [← HR.out]; unfold addL
                    rw [if_neg (show ¬ rec.length = 0 by omega), if_neg (show ¬ 1048576 < rec.length by omega), if_neg (show ¬ (false = true) by simp), HXR.out, HQQ.out]
                    simp [HC.out, c5']
                  have HR2 := hid hr2
                  clear c5' hr2
                  go_wp2_with fail
                  go_ret
                  rw [HR2.out]
                  exact ⟨v2, rfl, (HE.out false).1, (HE.out false).2.1, (HE.out false).2.2, HG2.out⟩
                · have h5 : ((q2 : Int) != 5) = true := by rw [bne_iff_ne]; omega
                  have hr2 : r = (q1, ⟨ln, lb, true⟩, q2) := by
                    rw [← HR.out]; unfold addL
                    rw [if_neg (show ¬ rec.length = 0 by omega), if_neg (show ¬ 1048576 < rec.length by omega), if_neg (show ¬ (false = true) by simp), HXR.out, HQQ.out]
                    simp [HC.out, c5']
                  have HR2 := hid hr2
                  clear c5' hr2
                  go_wp2_with fail
                  go_ret
                  rw [HR2.out]
                  exact ⟨v2, rfl, (HE.out true).1, (HE.out true).2.1, (HE.out true).2.2, HG2.out⟩
            · have hd : appendD d X = (d', 0) := by
                rcases I.out.at_ with h | h | h
                · exact absurd h.1 (by decide)
                · exact h.2
                · exact absurd h.1 (by decide)
              obtain ⟨⟨q1, q2⟩, hq⟩ : ∃ q, syncD d' = q := ⟨_, rfl⟩
              have HQQ := hid hq
              have HAP := hid hd
              clear hq hd hxl
              go_wp2_with fail
              refine (sync_c I.out.disk _ HQQ.out).mono ?_
              intro e w2 hr2
              obtain ⟨v2, rfl, D2, L2, B2, F2, G2, step⟩ := I.out.turn hr2
              by_cases cq : q2 = 0
              · subst cq
                have HST := hid (step 2 (.inr ⟨rfl, _, HAP.out, HQQ.out⟩))
                clear D2 L2 B2 F2 G2 step hr2
                go_wp2_with fail
                go_roundg (2 - 2)
                case measure => have := HQ.out; omega
                case rel => exact ⟨2, v2, q1, by go_num, by omega, rfl, HST⟩
              · have hb : ((q2 : Int) != 0) = true := by rw [bne_iff_ne]; omega
                obtain ⟨m0, m1, m2, m3, mf⟩ := Blk.fours L2
                have bx0 := B2.cell 0
                replace bx0 : w2.cell? ⟨w.heap.size, 0, none⟩ = some (Value.pointer (some ⟨gl, 0, none⟩)) := bx0
                have HE := hid (fun b : Bool => add_err (l := ⟨ln, lb, false⟩) D2 L2 F2 G2 b)
                have HG2 := hid G2
                have HC := hid cq
                clear D2 L2 B2 F2 G2 step hr2 cq
                by_cases c5' : q2 = 5
                · have h5 : ((q2 : Int) != 5) = false := by simp [c5']
                  have hr2 : r = (q1, ⟨ln, lb, false⟩, q2) := by
                    rw [← HR.out]; unfold addL
                    rw [if_neg (show ¬ rec.length = 0 by omega), if_neg (show ¬ 1048576 < rec.length by omega), if_neg (show ¬ (false = true) by simp), HXR.out, HAP.out, if_pos rfl, HQQ.out]
                    simp [HC.out, c5']
                  have HR2 := hid hr2
                  clear c5' hr2
                  go_wp2_with fail
                  go_ret
                  rw [HR2.out]
                  exact ⟨v2, rfl, (HE.out false).1, (HE.out false).2.1, (HE.out false).2.2, HG2.out⟩
                · have h5 : ((q2 : Int) != 5) = true := by rw [bne_iff_ne]; omega
                  have hr2 : r = (q1, ⟨ln, lb, true⟩, q2) := by
                    rw [← HR.out]; unfold addL
                    rw [if_neg (show ¬ rec.length = 0 by omega), if_neg (show ¬ 1048576 < rec.length by omega), if_neg (show ¬ (false = true) by simp), HXR.out, HAP.out, if_pos rfl, HQQ.out]
                    simp [HC.out, c5']
                  have HR2 := hid hr2
                  clear c5' hr2
                  go_wp2_with fail
                  go_ret
                  rw [HR2.out]
                  exact ⟨v2, rfl, (HE.out true).1, (HE.out true).2.1, (HE.out true).2.2, HG2.out⟩
            · obtain ⟨d1, hd1, hd2⟩ : ∃ d1, appendD d X = (d1, 0) ∧ syncD d1 = (d', 0) := by
                rcases I.out.at_ with h | h | h
                · exact absurd h.1 (by decide)
                · exact absurd h.1 (by decide)
                · exact h.2
              have hr2 : r = (d', ⟨ln + 1, lb + X.length, false⟩, 0) := by
                rw [← HR.out]; unfold addL
                rw [if_neg (show ¬ rec.length = 0 by omega), if_neg (show ¬ 1048576 < rec.length by omega), if_neg (show ¬ (false = true) by simp), HXR.out, hd1, hd2]
                rfl
              have HR2 := hid hr2
              obtain ⟨m0, m1, m2, m3, mf⟩ := Blk.fours I.out.log
              have bx0 := I.out.box.cell 0
              replace bx0 : wr.cell? ⟨w.heap.size, 0, none⟩ = some (Value.pointer (some ⟨gl, 0, none⟩)) := bx0
              have rw0 := I.out.row.cell 0
              replace rw0 : wr.cell? ⟨w1.heap.size, 0, none⟩ = some (Value.slice A5 X.length c5) := rw0
              have n1 : ¬ gl = w1.heap.size := Blk.ne_ I.out.log I.out.row (by decide)
              have n2 : ¬ gl = w.heap.size := Blk.ne_ I.out.log I.out.box (by decide)
              have n3 : ¬ w1.heap.size = gl := fun e => n1 e.symm
              have n4 : ¬ w.heap.size = gl := fun e => n2 e.symm
              clear hd1 hd2 hr2
              go_wp2_with fail
              go_region
              go_wp2_with fail
              go_ret
              rw [HR2.out]
              have hfin := add_ok (l := ⟨ln, lb, false⟩) (n := ln + 1) (m := lb + X.length) I.out.disk I.out.log I.out.fr rfl
              exact ⟨v', rfl, hfin.1.keep_no ((Fr.refl No _).drew), Blk.drew hfin.2.1, hfin.2.2.drew, I.out.grows⟩
end Go.Proofs.Ytfbhcapcnkcfdaa
