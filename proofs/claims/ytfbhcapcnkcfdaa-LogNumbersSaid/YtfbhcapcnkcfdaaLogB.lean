import Derived.Test.YtfbhcapcnkcfdaaLogA
import Derived.Deep.LoopGhost
/-! The contracts of package log: Open. -/
namespace Go.Proofs.Ytfbhcapcnkcfdaa
open Go.RowKit
set_option linter.unusedVariables false
set_option linter.unusedSimpArgs false

theorem infoS : (Try.prog.info? 22).map (fun i => (i.zero, i.size, i.bytes)) = some (some (.slice none 0 0), 1, 24) := by kernel_rfl
/-- a row of slices of bytes of the call's own, all new since base: each slice with what it reads as -/
structure OwnL (w : World) (base : Nat) (v : Value) (ps : List (Value × List UInt8)) : Prop where
  row : Own 22 1 w v ps.length (ps.map (·.1))
  new : ∀ k, Of v k → base ≤ k
  data : ∀ p ∈ ps, OwnB 5 w p.1 p.2
  far : ∀ p ∈ ps, ∀ k, Of p.1 k → base ≤ k
section
variable {w w' : World} {base : Nat} {v : Value} {ps : List (Value × List UInt8)} {S : Nat → Prop}
theorem OwnL.keep (h : OwnL w base v ps) (hf : Fr S w w') (h1 : ∀ k, Of v k → ¬ S k) (h2 : ∀ p ∈ ps, ∀ k, Of p.1 k → ¬ S k) : OwnL w' base v ps :=
  ⟨h.row.keep hf h1, h.new, fun p hp => (h.data p hp).keep hf (h2 p hp), h.far⟩
theorem OwnL.keep_no (h : OwnL w base v ps) (hf : Fr No w w') : OwnL w' base v ps := h.keep hf (fun k _ => not_no k) (fun _ _ k _ => not_no k)
/-- cells of other types are written -/
theorem OwnL.other (h : OwnL w base v ps) {g : Nat} {t : TypeId} {cs : Array Value} (hb : Blk w g t cs) (h1 : 22 ≠ t) (h2 : 5 ≠ t) (hf : Fr (fun k => k = g) w w') : OwnL w' base v ps :=
  h.keep hf (fun k hk e => h.row.ne_ hb h1 (e ▸ hk)) (fun p hp k hk e => (h.data p hp).ne_ hb h2 (e ▸ hk))
theorem OwnL.nil (w : World) (base : Nat) : OwnL w base (.slice none 0 0) [] := ⟨Own.nil _ _ _, fun k hk => absurd hk Of_none, by simp, by simp⟩
end
theorem Rd.lit1 (w : World) (t : TypeId) (cs : Array Value) (size : Nat) (hs : cs.size = size) : Rd size (w.alloc (.cells cs t)) (.slice (some ⟨w.heap.size, 0, none⟩) 1 1) 1 cs.toList := by
  refine ⟨_, 1, rfl, Nat.le_refl _, by simp [hs], fun _ => ⟨w.heap.size, 0, rfl, by simp, fun j u hu => ?_⟩⟩
  rw [Nat.zero_add, cell_of_row _ _ j cs t (0, 0) (heap_alloc_new w _), ← Array.getElem?_toList]
  exact hu
theorem OwnL.push {w w1 : World} {base : Nat} {v v1 : Value} {ps : List (Value × List UInt8)} (h : OwnL w base v ps) {p : Value × List UInt8} (hp : OwnB 5 w p.1 p.2) (hpf : ∀ k, Of p.1 k → base ≤ k) (hb : base ≤ w.heap.size)
    (ho : Own 22 1 w1 v1 (ps.length + 1) (ps.map (·.1) ++ [p.1])) (hf : Fr (Of v) w w1) (hg : ∀ k, Of v1 k → Of v k ∨ w.heap.size ≤ k) : OwnL w1 base v1 (ps ++ [p]) := by
  have hne : ∀ q : Value × List UInt8, OwnB 5 w q.1 q.2 → OwnB 5 w1 q.1 q.2 := fun q hq => hq.keep hf (fun k hk hk2 => by
    rcases hq.2 with ⟨h0, _⟩ | ⟨g', cap, cur, h0, hc, _⟩
    · rw [h0] at hk; exact Of_none hk
    · rw [h0] at hk
      rw [Of_some.1 hk] at hk2
      exact h.row.ne_ (g' := g') (cs' := cur) hc (by decide) hk2)
  refine ⟨by simpa using ho, fun k hk => ?_, fun q hq => ?_, fun q hq => ?_⟩
  · rcases hg k hk with h1 | h1
    · exact h.new k h1
    · omega
  · rcases List.mem_append.1 hq with hq | hq
    · exact hne q (h.data q hq)
    · rw [List.mem_singleton.1 hq]; exact hne p hp
  · rcases List.mem_append.1 hq with hq | hq
    · exact h.far q hq
    · rw [List.mem_singleton.1 hq]; exact hpf

/-- Open fails: nothing is told -/
def RetOpenE (w : World) (g : Nat) (v : Value) (d' : DSt) (e : Nat) : Ending → World → Prop := fun en w' => ∃ v', en = .returned (.tuple #[.pointer none, .slice none 0 0, .int .i64 e]) ∧ IsDisk w' g v' d' ∧ Fr (Its g v) w w' ∧ Grows w (Of v) v'
/-- Open tells a log and its records -/
def RetOpen (w : World) (g : Nat) (v : Value) (d' : DSt) (rs : List (List UInt8)) : Ending → World → Prop := fun en w' => ∃ gl vo ps v', en = .returned (.tuple #[.pointer (some ⟨gl, 0, none⟩), vo, .int .i64 0]) ∧ IsDisk w' g v' d' ∧
  IsLog w' gl g ⟨rs.length, (recsB rs).length, false⟩ ∧ w.heap.size ≤ gl ∧ OwnL w' w.heap.size vo ps ∧ ps.map (·.2) = rs ∧ Fr (Its g v) w w' ∧ Grows w (Of v) v' ∧ (∀ p ∈ ps, ∀ k, Of p.1 k → ¬ Of v' k)
/-- what Open does: the disk then, the records, the error -/
def openD (d : DSt) : DSt × List (List UInt8) × Nat :=
  if d.down then (d, [], 15)
  else if (recsB (wholeL d.bytes)).length < d.bytes.length then
    (if (cutD d (recsB (wholeL d.bytes)).length).2 = 0 then ((cutD d (recsB (wholeL d.bytes)).length).1, wholeL d.bytes, 0) else ((cutD d (recsB (wholeL d.bytes)).length).1, [], (cutD d (recsB (wholeL d.bytes)).length).2))
  else (d, wholeL d.bytes, 0)

set_option maxHeartbeats 1000000 in
theorem open_down {w : World} {g : Nat} {v : Value} {d : DSt} (h : IsDisk w g v d) (hd : d.down = true) :
    Calls Try.prog 13 #[.pointer (some ⟨g, 0, none⟩)] w (RetOpenE w g v d 15) := by
  have H := hid h
  have HR := hid (show readD d = ([], 15) by unfold readD; rw [hd]; rfl)
  clear h hd
  go_enter Try.func13, Try.ntmps13
  go_wp2_with fail
  refine (read_c H.out _ HR.out).mono ?_
  rintro e w1 ⟨v1, rfl, O, F, G⟩
  obtain ⟨A, c, rfl, hc⟩ := O.slice
  have HF := hid F
  clear O F G
  go_wp2_with fail
  go_ret3
  exact ⟨v, rfl, H.out.keep_no HF.out, HF.out.mono (fun k _ h => absurd h (not_no k)), Grows.self _ _⟩

/-- how the loop of Open stands -/
structure InOpen (w wr : World) (gl g : Nat) (vb vo : Value) (bs : List UInt8) (ps : List (Value × List UInt8)) (at_ : Nat) : Prop where
  log : IsLog wr gl g ⟨ps.length, at_, false⟩
  own : OwnB 5 wr vb bs
  out : OwnL wr w.heap.size vo ps
  fr : Fr No w wr
  glnew : w.heap.size ≤ gl
  whole : wholeL bs = ps.map (·.2) ++ wholeL (bs.drop at_)
  sum : at_ = (recsB (ps.map (·.2))).length
  le : at_ ≤ bs.length
  few : ps.length ≤ at_
  apart : ∀ p ∈ ps, ∀ k, Of p.1 k → ¬ Of vb k
theorem InOpen.keep {w wr w' : World} {gl g : Nat} {vb vo : Value} {bs : List UInt8} {ps : List (Value × List UInt8)} {at_ : Nat} (h : InOpen w wr gl g vb vo bs ps at_) (hf : Fr No wr w') : InOpen w w' gl g vb vo bs ps at_ :=
  ⟨h.log.keep hf (not_no _), h.own.keep hf (fun k _ => not_no k), h.out.keep_no hf, h.fr.fresh_no hf, h.glnew, h.whole, h.sum, h.le, h.few, h.apart⟩
theorem InOpen.turn {w w1 w2 : World} {gl g : Nat} {vb vo v2 vr : Value} {bs r : List UInt8} {ps : List (Value × List UInt8)} {at_ : Nat} {o : Obj} (h : InOpen w w1 gl g vb vo bs ps at_) (hn : nextL (bs.drop at_) = some r) (hr : OwnB 5 w1 vr r) (hrn : ∀ k, Of vr k → w.heap.size ≤ k ∧ ¬ Of vb k)
    (ho : Own 22 1 w2 v2 (ps.length + 1) (ps.map (·.1) ++ [vr])) (hf : Fr (Of vo) (w1.alloc o) w2) (hg : ∀ k, Of v2 k → Of vo k ∨ k = (w1.alloc o).heap.size) :
    InOpen w ((w2.setCell ⟨gl, 1, none⟩ (.int .i64 ((ps.length : Int) + 1))).setCell ⟨gl, 2, none⟩ (.int .i64 ((at_ : Int) + (8 + (r.length : Int))))) gl g vb v2 bs (ps ++ [(vr, r)]) (at_ + (8 + r.length)) := by
  have K := h.keep ((Fr.refl No w1).alloc o)
  have hb : w.heap.size ≤ (w1.alloc o).heap.size := K.fr.size
  have O2 := K.out.push (p := (vr, r)) (hr.alloc o) (fun k hk => (hrn k hk).1) hb ho hf (fun k hk => (hg k hk).imp id (fun e => by omega))
  have hgl : ¬ Of vo gl := h.out.row.ne_ h.log (by decide)
  have L2 : IsLog w2 gl g ⟨ps.length, at_, false⟩ := K.log.keep hf hgl
  have B2 : OwnB 5 w2 vb bs := K.own.keep hf (fun k hk hk2 => by
    rcases h.own.2 with ⟨h0, _⟩ | ⟨g', cap, cur, h0, hc, _⟩
    · rw [h0] at hk; exact Of_none hk
    · rw [h0] at hk
      rw [Of_some.1 hk] at hk2
      exact h.out.row.ne_ (g' := g') (cs' := cur) hc (by decide) hk2)
  have FS : Fr (fun k => k = gl) w2 ((w2.setCell ⟨gl, 1, none⟩ (.int .i64 ((ps.length : Int) + 1))).setCell ⟨gl, 2, none⟩ (.int .i64 ((at_ : Int) + (8 + (r.length : Int))))) := by
    repeat (first | refine Fr.setCell (S := fun k => k = gl) ?_ (fun _ => rfl) _ | exact Fr.refl _ _)
  have hs := nextL_some hn
  simp only [List.length_drop] at hs
  have F2 : Fr No w w2 := K.fr.fresh hf (fun k hk => h.out.new k hk)
  have L3 := (L2.set_ 1 (.int .i64 ((ps.length : Int) + 1))).set_ 2 (.int .i64 ((at_ : Int) + (8 + (r.length : Int))))
  refine ⟨?_, B2.keep FS (fun k hk e => B2.ne_ L2 (by decide) (e ▸ hk)), O2.other L2 (by decide) (by decide) FS, F2.fresh FS (fun k e => by rw [e]; exact h.glnew), h.glnew, ?_, ?_, ?_, ?_, ?_⟩
  · show Blk _ gl _ #[.pointer (some ⟨g, 0, none⟩), .int .i64 (((ps ++ [(vr, r)]).length : Nat) : Int), .int .i64 ((at_ + (8 + r.length) : Nat) : Int), .bool false]
    simpa [LSt.cells] using L3
  · rw [h.whole, wholeL_some hn, List.drop_drop]; simp
  · rw [List.map_append, List.map_cons, List.map_nil, recsB_snoc_len, ← h.sum]
  · have := h.le; omega
  · have := h.few; simp; omega
  · intro p hp k hk
    rcases List.mem_append.1 hp with hp | hp
    · exact h.apart p hp k hk
    · rw [List.mem_singleton.1 hp] at hk; exact (hrn k hk).2

/-- the walk of Open to where its loop ends: what is asked then -/
def Rest (w : World) (g : Nat) (v : Value) (d : DSt) (r : DSt × List (List UInt8) × Nat) : Ending → World → Prop := fun en w' =>
  (r.2.2 = 0 ∧ RetOpen w g v r.1 r.2.1 en w') ∨ (r.2.2 ≠ 0 ∧ RetOpenE w g v r.1 r.2.2 en w')

set_option maxRecDepth 100000 in
set_option maxHeartbeats 4000000 in
theorem open_up {w : World} {g : Nat} {v : Value} {d : DSt} (h : IsDisk w g v d) (hd : d.down = false) (r : DSt × List (List UInt8) × Nat) (hr : openD d = r) :
    Calls Try.prog 13 #[.pointer (some ⟨g, 0, none⟩)] w (Rest w g v d r) := by
  have H := hid h
  have HR := hid (show readD d = (d.bytes, 0) by unfold readD; rw [hd]; rfl)
  have HL := hid (show d.bytes.length ≤ 67108864 by have := h.len; have := h.most1; omega)
  obtain ⟨bs, hbs⟩ : ∃ bs, d.bytes = bs := ⟨_, rfl⟩
  have HOP := hid (show (if (recsB (wholeL bs)).length < bs.length then (if (cutD d (recsB (wholeL bs)).length).2 = 0 then ((cutD d (recsB (wholeL bs)).length).1, wholeL bs, 0) else ((cutD d (recsB (wholeL bs)).length).1, [], (cutD d (recsB (wholeL bs)).length).2)) else (d, wholeL bs, 0)) = r by
    rw [← hr]; unfold openD; rw [hbs, hd, if_neg (show ¬ (false = true) by simp)])
  rw [hbs] at HR HL
  have HBS := hid hbs
  clear h hd hr hbs
  go_enter Try.func13, Try.ntmps13
  go_wp2_with fail
  refine (read_c H.out _ HR.out).mono ?_
  rintro e w1 ⟨vb, rfl, O, F, G⟩
  replace O : OwnB 5 w1 vb bs := O
  obtain ⟨A, c, rfl, hc⟩ := O.slice
  have I0 := hid (show InOpen w (w1.alloc (.cells #[.pointer (some ⟨g, 0, none⟩), .int .i64 0, .int .i64 0, .bool false] 26)) w1.heap.size g (.slice A bs.length c) (.slice none 0 0) bs [] 0 from
    ⟨Blk.new _ _ _, O.alloc _, OwnL.nil _ _, F.alloc _, F.size, by simp, rfl, Nat.zero_le _, Nat.le_refl _, by simp⟩)
  have HG := hid (show ∀ k, Of (.slice A bs.length c) k → w.heap.size ≤ k ∧ k < w1.heap.size from fun k hk => ⟨by rcases G k hk with h | h; exact absurd h (not_no _); exact h, O.lt k hk⟩)
  clear O F G
  go_wp2_with fail
  go_loopg [8] bs.length (fun q v8 w' => ∃ (vo : Value) (ps : List (Value × List UInt8)) (at_ : Nat), v8 = vo ∧ Hid (q = bs.length - at_) ∧ Hid (InOpen w w' w1.heap.size g (.slice A bs.length c) vo bs ps at_))
  case atStart => exact ⟨_, [], 0, rfl, rfl, I0⟩
  case round =>
    clear I0
    obtain ⟨vo, ps, at_, rfl, HQ, I⟩ := hrel
    obtain ⟨k0, k1, k2, k3, kf⟩ := Blk.fours I.out.log
    obtain ⟨Ao, co, rfl, hco, hcm⟩ := I.out.out.row.slice
    have l0 : at_ ≤ bs.length := I.out.le
    have l1 : ps.length ≤ at_ := I.out.few
    have l2 := HL.out
    have m0 : (0 : Int) ≤ at_ := by omega
    have m1 : (at_ : Int) ≤ bs.length := by omega
    have m2 : (at_ : Int) ≤ c := by omega
    obtain ⟨o, ho⟩ : ∃ o, nextL (bs.drop at_) = o := ⟨_, rfl⟩
    have HO := hid ho
    clear ho
    have hdl : (bs.drop at_).length = bs.length - at_ := by simp
    have HDL := hid hdl
    clear hdl
    by_cases hca : c = at_
    · obtain rfl : at_ = bs.length := by omega
      subst hca
      have ho : o = none := by rw [← HO.out, List.drop_length, nextL_nil]
      subst ho
      have hR : RdB wr (.slice A 0 0) (bs.drop bs.length) := by rw [List.drop_length]; exact ⟨A, 0, rfl, Nat.le_refl _, by simp [bvs], fun h => absurd h (by simp)⟩
      have HRR := hid hR
      clear hR
      go_wp2_with fail
      refine (next_c _ (bs.drop bs.length) _ HRR.out (by simp) none HO.out).mono ?_
      rintro e w2 ⟨vr, xs, rfl, Or, hx, F2, G2⟩
      obtain ⟨Ar, cr, rfl, hcr⟩ := Or.slice
      have I2 := hid (I.out.keep F2)
      have hw := I.out.whole
      rw [wholeL_none HO.out, List.append_nil] at hw
      have hsum := I.out.sum
      rw [← hw] at hsum
      obtain ⟨k0, k1, k2, k3, kf⟩ := Blk.fours I2.out.log
      have HW := hid hw
      have HS := hid hsum
      have HD2 := hid (H.out.keep_no I2.out.fr)
      clear Or hx F2 G2 hw hsum
      go_wp2_with fail
      go_ret3
      have hop := HOP.out
      rw [← HS.out, if_neg (by omega)] at hop
      subst hop
      refine .inl ⟨rfl, w1.heap.size, _, ps, v, rfl, HD2.out, ?_, I2.out.glnew, I2.out.out, HW.out.symm, I2.out.fr.mono (fun k _ h => absurd h (not_no k)), Grows.self _ _, fun p hp k hk hv => ?_⟩
      · show Blk _ _ _ #[.pointer (some ⟨g, 0, none⟩), .int .i64 (((wholeL bs).length : Nat) : Int), .int .i64 ((recsB (wholeL bs)).length : Int), .bool false]
        rw [← HS.out, show (wholeL bs).length = ps.length by rw [HW.out]; simp]
        exact I2.out.log
      · have h1 := I2.out.out.far p hp k hk
        have h2 := H.out.own.lt k hv
        omega
    · obtain ⟨gb, hA⟩ : ∃ gb, A = some ⟨gb, 0, none⟩ := by
        rcases I.out.own.2 with ⟨h0, _⟩ | ⟨g', cap, cur, h0, _⟩
        · injection h0 with _ h2 h3; omega
        · injection h0 with h1; exact ⟨g', h1⟩
      subst hA
      have hdr := I.out.own.rd.drop (m := at_) (c' := c - at_) l0 (by omega)
      rw [if_neg hca] at hdr
      have HRR := hid (show RdB wr (.slice (some ⟨gb, at_, none⟩) (bs.length - at_) (c - at_)) (bs.drop at_) from by
        have h := hdr
        simp only [Option.map_some, add_off, Nat.zero_add] at h
        exact h)
      clear hdr
      cases o with
      | none =>
        go_wp2_with fail
        refine (next_c _ (bs.drop at_) _ HRR.out (by rw [HDL.out]; omega) none HO.out).mono ?_
        rintro e w2 ⟨vr, xs, rfl, Or, hx, F2, G2⟩
        obtain ⟨Ar, cr, rfl, hcr⟩ := Or.slice
        have I2 := hid (I.out.keep F2)
        have hw := I.out.whole
        rw [wholeL_none HO.out, List.append_nil] at hw
        have hsum := I.out.sum
        rw [← hw] at hsum
        obtain ⟨k0, k1, k2, k3, kf⟩ := Blk.fours I2.out.log
        have HW := hid hw
        have HS := hid hsum
        have HD2 := hid (H.out.keep_no I2.out.fr)
        clear Or hx F2 G2 hw hsum
        by_cases hlt : at_ < bs.length
        · have hlt2 : (at_ : Int) < bs.length := by omega
          go_wp2_with fail
          obtain ⟨⟨q1, q2⟩, hq⟩ : ∃ q, cutD d (at_ : Int) = q := ⟨_, rfl⟩
          have HQQ := hid hq
          have hop := HOP.out
          rw [← HS.out, if_pos (by omega), hq] at hop
          have HP := hid hop
          have hdw : ∀ k, Of (.slice (some ⟨gb, 0, none⟩) bs.length c) k → k < w1.heap.size := fun k hk => (HG.out k hk).2
          clear hq hop
          refine (cut_c HD2.out (at_ : Int) _ HQQ.out).mono ?_
          rintro e w3 ⟨v3, rfl, D3, F3, G3⟩
          have L3 := hid (I2.out.log.keep F3 (fun h => by
            rcases h with h | h
            · have := H.out.lt; have := I2.out.glnew; omega
            · have := H.out.own.lt _ h; have := I2.out.glnew; omega))
          have HD3 := hid D3
          have hIts : ∀ k, w.heap.size ≤ k → ¬ Its g v k := fun k hk hi => by
            rcases hi with h | h
            · have := H.out.lt; omega
            · have := H.out.own.lt _ h; omega
          have O3 := hid (I2.out.out.keep F3 (fun k hk => hIts k (I2.out.out.new k hk)) (fun p hp k hk => hIts k (I2.out.out.far p hp k hk)))
          have F33 := hid ((I2.out.fr.mono (fun k _ h => absurd h (not_no k)) : Fr (Its g v) w w2).trans F3 (fun _ _ h => h))
          have G33 := hid (show Grows w (Of v) v3 from fun k hk => (G3 k hk).imp id (fun h => Nat.le_trans I2.out.fr.size h))
          have HAP := hid (show ∀ p ∈ ps, ∀ k, Of p.1 k → ¬ Of v3 k from fun p hp k hk hv => by
            have h1 := I2.out.out.far p hp k hk
            have h2 := (I2.out.out.data p hp).lt k hk
            rcases G3 k hv with h | h
            · have := H.out.own.lt k h; omega
            · omega)
          obtain ⟨k0, k1, k2, k3, kf⟩ := Blk.fours L3.out
          clear D3 F3 G3 hIts
          by_cases cq : q2 = 0
          · subst cq
            go_wp2_with fail
            go_ret3
            have hop := HP.out
            rw [if_pos trivial] at hop
            subst hop
            refine .inl ⟨rfl, w1.heap.size, _, ps, v3, rfl, HD3.out, ?_, I2.out.glnew, O3.out, HW.out.symm, F33.out, G33.out, HAP.out⟩
            show Blk _ _ _ #[.pointer (some ⟨g, 0, none⟩), .int .i64 (((wholeL bs).length : Nat) : Int), .int .i64 ((recsB (wholeL bs)).length : Int), .bool false]
            rw [← HS.out, show (wholeL bs).length = ps.length by rw [HW.out]; simp]
            exact L3.out
          · have hb : ((q2 : Int) != 0) = true := by rw [bne_iff_ne]; omega
            have HCQ := hid cq
            clear cq
            go_wp2_with fail
            go_ret3
            have hop := HP.out
            rw [if_neg HCQ.out] at hop
            subst hop
            exact .inr ⟨HCQ.out, v3, rfl, HD3.out, F33.out, G33.out⟩
        · have hlt2 : ¬ (at_ : Int) < bs.length := by omega
          go_wp2_with fail
          go_ret3
          have hop := HOP.out
          rw [← HS.out, if_neg (by omega)] at hop
          subst hop
          refine .inl ⟨rfl, w1.heap.size, _, ps, v, rfl, HD2.out, ?_, I2.out.glnew, I2.out.out, HW.out.symm, I2.out.fr.mono (fun k _ h => absurd h (not_no k)), Grows.self _ _, fun p hp k hk hv => ?_⟩
          · show Blk _ _ _ #[.pointer (some ⟨g, 0, none⟩), .int .i64 (((wholeL bs).length : Nat) : Int), .int .i64 ((recsB (wholeL bs)).length : Int), .bool false]
            rw [← HS.out, show (wholeL bs).length = ps.length by rw [HW.out]; simp]
            exact I2.out.log
          · have h1 := I2.out.out.far p hp k hk
            have h2 := H.out.own.lt k hv
            omega
      | some rec =>
        have hs := nextL_some HO.out
        rw [HDL.out] at hs
        obtain ⟨s1, s2, s3⟩ := hs
        have hb1 : ps.length + 1 ≤ maxLen := by simp only [maxLen]; omega
        have hb2 : (ps.length + 1) * 24 ≤ 140737488355328 := by omega
        go_wp2_with fail
        refine (next_c _ (bs.drop at_) _ HRR.out (by rw [HDL.out]; omega) (some rec) HO.out).mono ?_
        rintro e w2 ⟨vr, xs, rfl, Or, hx, F2, G2⟩
        obtain rfl : xs = rec := hx rec rfl
        obtain ⟨Ar, cr, rfl, hcr⟩ := Or.slice
        have I2 := hid (I.out.keep F2)
        have HOR := hid Or
        have HRN := hid (show ∀ k, Of (.slice Ar xs.length cr) k → w.heap.size ≤ k ∧ ¬ Of (.slice (some ⟨gb, 0, none⟩) bs.length c) k from fun k hk => by
          rcases G2 k hk with h | h
          · exact absurd h (not_no _)
          · refine ⟨Nat.le_trans I.out.fr.size h, fun h2 => ?_⟩
            have := I.out.own.lt k h2
            omega)
        have HROW := hid (I2.out.out.row.keep ((Fr.refl No w2).alloc (.cells #[.slice Ar xs.length cr] 22)) (fun k _ => not_no k))
        clear Or hx F2 G2
        go_wp2_with (at_builtin; refine wpl_app _ rfl (.tmp 35) (.tmp 37) _ rfl 22 _ 1 24 Try.underlying31 infoS (by rfl) (.slice Ao ps.length co) ps.length (ps.map (·.1)) rfl HROW.out (.slice (some ⟨w2.heap.size, 0, none⟩) 1 1) 1 [.slice Ar xs.length cr] rfl (Rd.lit1 w2 22 #[.slice Ar xs.length cr] 1 rfl) (by intro u hu; simp only [List.mem_singleton] at hu; subst hu; rfl) hb1 hb2 ?_; intro v5 w5 o5 f5 g5; have I5 := hid (I2.out.turn (o := .cells #[.slice Ar xs.length cr] 22) HO.out HOR.out HRN.out o5 f5 g5); have L5 := (I2.out.keep ((Fr.refl No w2).alloc (.cells #[.slice Ar xs.length cr] 22))).log.keep f5 (I2.out.out.row.ne_ I2.out.log (by decide)); clear o5 f5 g5 k0 k1 k2 k3 kf; obtain ⟨k0, k1, k2, k3, kf⟩ := Blk.fours L5; clear L5)
        go_roundg (bs.length - (at_ + (8 + xs.length)))
        case measure => have := HQ.out; omega
        case rel => exact ⟨_, ps ++ [(_, xs)], at_ + (8 + xs.length), rfl, rfl, I5⟩
end Go.Proofs.Ytfbhcapcnkcfdaa
