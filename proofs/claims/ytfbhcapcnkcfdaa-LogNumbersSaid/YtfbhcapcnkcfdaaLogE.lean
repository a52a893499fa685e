import Derived.Test.YtfbhcapcnkcfdaaLogD
/-! Lists of bytes held beside each other; a log and its disk, new since w0. -/
namespace Go.Proofs.Ytfbhcapcnkcfdaa
open Go.RowKit
set_option linter.unusedVariables false
set_option linter.unusedSimpArgs false

/-- a slice of slices of bytes, with what each reads as -/
def RdLs (w : World) (v : Value) (ps : List (Value × List UInt8)) : Prop := Rd 1 w v ps.length (ps.map (·.1)) ∧ ∀ p ∈ ps, RdB w p.1 p.2
theorem OwnL.rds {w : World} {base : Nat} {v : Value} {ps : List (Value × List UInt8)} (h : OwnL w base v ps) : RdLs w v ps := ⟨h.row.rd, fun p hp => (h.data p hp).rd⟩
theorem RdLs.too {w w' : World} {v : Value} {ps : List (Value × List UInt8)} (h : RdLs w v ps) (hf : Fr No w w') : RdLs w' v ps := ⟨h.1.keep hf (fun k _ => not_no k), fun p hp => (h.2 p hp).too hf⟩
theorem Rd.slice_ {size : Nat} {w : World} {v : Value} {n : Nat} {xs : List Value} (h : Rd size w v n xs) : ∃ A c, v = .slice A n c ∧ n ≤ c := by
  obtain ⟨A, c, rfl, hc, _⟩ := h
  exact ⟨A, c, rfl, hc⟩
theorem RdLs.at_ {w : World} {A : Option Addr} {c k : Nat} {ps : List (Value × List UInt8)} (h : RdLs w (.slice A ps.length c) ps) (hk : k < ps.length) :
    ∃ b off A' c' xs, A = some ⟨b, off, none⟩ ∧ ps[k]? = some (.slice A' xs.length c', xs) ∧ w.cell? ⟨b, off + k, none⟩ = some (.slice A' xs.length c') ∧ RdB w (.slice A' xs.length c') xs := by
  obtain ⟨b, off, c', u, hv, hc, hx, hcell⟩ := Rd.at_ h.1 hk
  injection hv with hA _ hcc
  subst hA
  rw [List.getElem?_map] at hx
  have hz : ps[k]? = some (ps[k]'hk) := by simp [hk]
  have hm := h.2 _ (List.getElem_mem hk)
  generalize ps[k]'hk = p at hz hm
  rw [hz] at hx
  obtain ⟨u', xs⟩ := p
  injection hx with hx
  replace hx : u' = u := hx
  subst hx
  replace hm : RdB w u' xs := hm
  obtain ⟨A', c'', rfl, _⟩ := hm.slice
  exact ⟨b, off, A', c'', xs, rfl, hz, hcell, hm⟩

set_option maxRecDepth 100000 in
set_option maxHeartbeats 1000000 in
theorem sameL_yes (x y : Value) (ps qs : List (Value × List UInt8)) (w : World) (hx : RdLs w x ps) (hy : RdLs w y qs) (h : ps.map (·.2) = qs.map (·.2)) (hl : ps.length ≤ 4611686018427387904) :
    Calls Try.prog 18 #[x, y] w fun e w' => e = .returned (.bool true) ∧ ∃ n, w' = w.drewN n := by
  have hlen : qs.length = ps.length := by have := congrArg List.length h; simpa using this.symm
  obtain ⟨A, c, rfl, hc⟩ := hx.1.slice_
  obtain ⟨A', c', rfl, hc'⟩ := hy.1.slice_
  have HX := hid hx
  have HY := hid hy
  have HS := hid h
  have HLEN := hid hlen
  have hb : ((ps.length : Int) != qs.length) = false := by simp [hlen]
  clear hx hy h hlen
  go_enter Try.func18, Try.ntmps18
  go_wp2_with fail
  go_loopg [5] ps.length (fun q v5 w' => ∃ (i n : Nat), v5 = .int .i64 i ∧ i ≤ ps.length ∧ Hid (q = ps.length - i) ∧ Hid (w' = w.drewN n))
  case atStart => exact ⟨0, 0, rfl, by omega, rfl, rfl⟩
  case round =>
    obtain ⟨i, n, rfl, hi, HQ, HW⟩ := hrel
    have hF : Fr No w wr := by rw [HW.out]; exact (Fr.refl No w).drewN n
    by_cases c1 : i < ps.length
    · obtain ⟨b, off, A1, c1', xs, rfl, hz, k0, hr⟩ := (HX.out.too hF).at_ c1
      have c2 : i < qs.length := by have := HLEN.out; omega
      obtain ⟨b', off', A2, c2', ys, rfl, hz', k0', hr'⟩ := (HY.out.too hF).at_ c2
      have hxy : ys = xs := by
        have h1 : (ps.map (·.2))[i]? = some xs := by rw [List.getElem?_map, hz]; rfl
        rw [HS.out, List.getElem?_map, hz'] at h1
        exact Option.some.inj h1
      subst hxy
      have HR := hid hr
      have HR' := hid hr'
      have i0 : (0 : Int) ≤ i := by omega
      have i1 : (i : Int) < ps.length := by omega
      have i2 : (i : Int) < qs.length := by omega
      clear hz hz' hr hr' hF
      go_wp2_with fail
      go_quiet ((first
        | (go_at_call 34; exact Calls.quiet_of_same (same_yes _ _ ys _ (HR.out.drewN _) (HR'.out.drewN _)))))
      have HW2 := hid (show wr.drewN nq = w.drewN (n + nq) by rw [HW.out, World.drewN_drewN])
      go_wp2_with fail
      go_roundg (ps.length - (i + 1))
      case measure => have := HQ.out; omega
      case rel => exact ⟨i + 1, n + nq, by go_num, by omega, rfl, HW2⟩
    · have i1 : ¬ (i : Int) < ps.length := by omega
      go_wp2_with fail
      go_ret
      exact ⟨rfl, n, HW.out⟩

/-- a log and its disk that are new since w0, all else as it was -/
structure SL (w0 w : World) (g : Nat) (v : Value) (d : DSt) (gl : Nat) (l : LSt) : Prop where
  st : St w0 w g v d
  log : IsLog w gl g l
  lnew : w0.heap.size ≤ gl
section
variable {w0 w w1 w2 : World} {g gl gm : Nat} {v v' : Value} {d d' : DSt} {l m : LSt}
theorem SL.keep (h : SL w0 w g v d gl l) (hf : Fr No w w1) : SL w0 w1 g v d gl l := ⟨h.st.keep hf, Blk.keep h.log hf (not_no _), h.lnew⟩
theorem IsDisk.notIts {w : World} {g : Nat} {v : Value} {d : DSt} (h : IsDisk w g v d) {b : Nat} {t : TypeId} {cs : Array Value} (hb : Blk w b t cs) (h1 : 77 ≠ t) (h2 : 5 ≠ t) : ¬ Its g v b := by
  rintro (e | hk)
  · exact h.blk.ne_ (e ▸ hb) h1 rfl
  · exact h.own.ne_ hb h2 hk
theorem SL.disk (h : SL w0 w g v d gl l) (hd : IsDisk w1 g v' d') (hf : Fr (Its g v) w w1) (hg : Grows w (Of v) v') : SL w0 w1 g v' d' gl l :=
  ⟨h.st.to hd hf hg, Blk.keep h.log hf (h.st.disk.notIts h.log (by decide) (by decide)), h.lnew⟩
theorem SL.add (h : SL w0 w g v d gl l) {r : DSt × LSt × Nat} {en : Ending} (hr : RetAdd w g v gl r en w2) : ∃ v2, en = .returned (.int .i64 r.2.2) ∧ SL w0 w2 g v2 r.1 gl r.2.1 ∧ Fr (fun k => Its g v k ∨ k = gl) w w2 ∧ Grows w (Of v) v2 := by
  obtain ⟨v2, he, hd, hl, hf, hg⟩ := hr
  refine ⟨v2, he, ⟨⟨hd, h.st.fr.fresh hf (fun k hk => ?_), h.st.gnew, fun k hk => ?_⟩, hl, h.lnew⟩, hf, hg⟩
  · rcases hk with hk | rfl
    · exact h.st.its hk
    · exact h.lnew
  · rcases hg k hk with h1 | h1
    · exact h.st.vnew k h1
    · exact Nat.le_trans h.st.fr.size h1
/-- bytes of the law's own, apart from the disk -/
structure Bys (w : World) (g : Nat) (v vb : Value) (bs : List UInt8) : Prop where
  rd : RdB w vb bs
  sep : 0 < bs.length → ∀ k, Of vb k → ¬ Its g v k
theorem Bys.keep {vb : Value} {bs : List UInt8} (h : Bys w g v vb bs) (hf : Fr No w w1) : Bys w1 g v vb bs := ⟨h.rd.too hf, h.sep⟩
theorem Bys.disk {vb : Value} {bs : List UInt8} (h : Bys w g v vb bs) {S : Nat → Prop} (hf : Fr S w w1) (hS : ∀ k, S k → Its g v k ∨ w.heap.size ≤ k) (hg : Grows w (Of v) v') : Bys w1 g v' vb bs := by
  refine ⟨h.rd.keep_ hf (fun h0 k hk hs => ?_), fun h0 k hk hi => ?_⟩
  · rcases hS k hs with h1 | h1
    · exact h.sep h0 k hk h1
    · have := h.rd.old_ h0 k hk; omega
  · rcases hi with e | hi
    · exact h.sep h0 k hk (.inl e)
    · rcases hg k hi with h1 | h1
      · exact h.sep h0 k hk (.inr h1)
      · have := h.rd.old_ h0 k hk; omega
/-- a list of bytes of the law's own, apart from the disk -/
structure Told (w : World) (base : Nat) (g : Nat) (v vo : Value) (ps : List (Value × List UInt8)) : Prop where
  own : OwnL w base vo ps
  sep : ∀ p ∈ ps, ∀ k, Of p.1 k → ¬ Of v k
theorem Told.keep {base : Nat} {vo : Value} {ps : List (Value × List UInt8)} (h : Told w base g v vo ps) (hf : Fr No w w1) : Told w1 base g v vo ps := ⟨h.own.keep_no hf, h.sep⟩
/-- the disk is turned, and cells that are neither rows of bytes nor rows of slices -/
theorem Told.disk {base : Nat} {vo : Value} {ps : List (Value × List UInt8)} (h : Told w base g v vo ps) (hd : IsDisk w g v d) {S : Nat → Prop} (hf : Fr S w w1) (hS : ∀ k, S k → Its g v k ∨ ∃ t cs, Blk w k t cs ∧ 22 ≠ t ∧ 5 ≠ t) (hg : Grows w (Of v) v') : Told w1 base g v' vo ps := by
  have hrow : ∀ k, Of vo k → ¬ S k := fun k hk hs => by
    rcases hS k hs with (e | hi) | ⟨t, cs, hb, h1, _⟩
    · exact h.own.row.ne_ hd.blk (by decide) (e ▸ hk)
    · rcases hd.own.2 with ⟨h0, _⟩ | ⟨g', cap, cur, h0, hc, _⟩
      · rw [h0] at hi; exact Of_none hi
      · rw [h0] at hi
        rw [Of_some.1 hi] at hk
        exact h.own.row.ne_ (g' := g') (cs' := cur) hc (by decide) hk
    · exact h.own.row.ne_ hb h1 hk
  have hdat : ∀ p ∈ ps, ∀ k, Of p.1 k → ¬ S k := fun p hp k hk hs => by
    rcases hS k hs with (e | hi) | ⟨t, cs, hb, _, h2⟩
    · exact (h.own.data p hp).ne_ hd.blk (by decide) (e ▸ hk)
    · exact h.sep p hp k hk hi
    · exact (h.own.data p hp).ne_ hb h2 hk
  refine ⟨h.own.keep hf hrow hdat, fun p hp k hk hi => ?_⟩
  rcases hg k hi with h1 | h1
  · exact h.sep p hp k hk h1
  · have := (h.own.data p hp).lt k hk; omega
theorem SL.opened (h : St w0 w g v d) {d2 : DSt} {rs : List (List UInt8)} {en : Ending} (hr : RetOpen w g v d2 rs en w2) : ∃ gm vo ps v2, en = .returned (.tuple #[.pointer (some ⟨gm, 0, none⟩), vo, .int .i64 0]) ∧ SL w0 w2 g v2 d2 gm ⟨rs.length, (recsB rs).length, false⟩ ∧ Told w2 w.heap.size g v2 vo ps ∧ ps.map (·.2) = rs ∧ Fr (Its g v) w w2 ∧ Grows w (Of v) v2 ∧ w.heap.size ≤ gm := by
  obtain ⟨gm, vo, ps, v2, he, hd, hl, hgm, ho, hps, hf, hg, hsep⟩ := hr
  exact ⟨gm, vo, ps, v2, he, ⟨h.to hd hf hg, hl, Nat.le_trans h.fr.size hgm⟩, ⟨ho, hsep⟩, hps, hf, hg, hgm⟩
end

/-! ## what Open tells -/
theorem openD_whole (d : DSt) (rs : List (List UInt8)) (h1 : d.down = false) (h2 : d.bytes = recsB rs) (h3 : ∀ r ∈ rs, Good r) : openD d = (d, rs, 0) := by
  unfold openD
  rw [h1, if_neg (show ¬ (false = true) by simp), h2, wholeL_recs_nil rs h3, if_neg (by omega)]
theorem openD_torn (d : DSt) (rs : List (List UInt8)) (t : List UInt8) (h1 : d.down = false) (h2 : d.bytes = recsB rs ++ t) (h3 : ∀ r ∈ rs, Good r) (h4 : nextL t = none) (h5 : 0 < t.length) (h6 : d.arm ≠ 0) : openD d = (⟨d.most, recsB rs, (recsB rs).length, max (d.arm - 1) (-1), false⟩, rs, 0) := by
  have hw : wholeL d.bytes = rs := by rw [h2, wholeL_recs rs t h3, wholeL_none h4, List.append_nil]
  have hc : cutD d ((recsB rs).length : Int) = (⟨d.most, recsB rs, (recsB rs).length, max (d.arm - 1) (-1), false⟩, 0) := by
    unfold cutD operD
    rw [h1, if_neg (show ¬ (false = true) by simp), if_neg (show ¬ ((if ((recsB rs).length : Int) < 0 ∨ (d.bytes.length : Int) < (recsB rs).length then 2 else 0 : Nat) ≠ 0) by rw [if_neg (by rw [h2, List.length_append]; omega)]; simp), if_neg h6]
    have ht : d.bytes.take (((recsB rs).length : Int)).toNat = recsB rs := by rw [h2, Int.toNat_natCast, List.take_left' rfl]
    dsimp only
    rw [ht, Int.toNat_natCast]
  unfold openD
  rw [h1, if_neg (show ¬ (false = true) by simp), hw, if_pos (by rw [h2, List.length_append]; omega), hc]
  rfl
end Go.Proofs.Ytfbhcapcnkcfdaa
