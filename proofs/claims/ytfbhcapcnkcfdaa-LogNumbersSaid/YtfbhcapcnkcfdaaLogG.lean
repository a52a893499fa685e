import Derived.Test.YtfbhcapcnkcfdaaLogF
/-! A disk with a log of records. -/
namespace Go.Proofs.Ytfbhcapcnkcfdaa
open Go.RowKit
set_option linter.unusedVariables false
set_option linter.unusedSimpArgs false

/-- an append behind a guard that is met -/
theorem wpl_app_g {P : Program} (w : World) {ops : Array Oper} {rest : List Oper} {o : Oper} {a : Act} {Q : Exit → Act → World → Prop} (hg : Region.wanted o (yielded ops a.tmps) = true) (s x : Operand) (t : TypeId)
    (ho : o.op = .call { callee := .builtin .append, args := #[s, x], argTypes := #[t, t] })
    (e : TypeId) (z : Value) (size bytes : Nat) (ht : P.underlying t = some (.slice e)) (hinfo : (P.info? e).map (fun i => (i.zero, i.size, i.bytes)) = some (some z, size, bytes)) (hzs : z.cells.size = size)
    (v : Value) (n : Nat) (xs : List Value) (hs : a.eval s = v) (hown : Own e size w v n xs) (xv : Value) (m : Nat) (news : List Value) (hx : a.eval x = xv) (hr : Rd size w xv m news)
    (h1 : ∀ u ∈ news, u.oneCell' = true) (h63 : n + m ≤ maxLen) (hbytes : (n + m) * bytes ≤ 140737488355328)
    (h : ∀ v' w', Own e size w' v' (n + m) (xs ++ news) → Fr (Of v) w w' → (∀ k, Of v' k → Of v k ∨ k = w.heap.size) → wpList P ops Q rest (a.put o.dst v') w') : wpList P ops Q (o :: rest) a w :=
  wpList_step fun K hK => by
    rw [if_pos hg]
    exact wp_app w s x t ho e z size bytes ht hinfo hzs v n xs hs hown xv m news hx hr h1 h63 hbytes fun v' w' h2 h3 h4 => hK _ _ (h v' w' h2 h3 h4)
/-- the records that are added: the first 30, of 1 to 100 bytes -/
def fits (p : Value × List UInt8) : Bool := decide (1 ≤ p.2.length ∧ p.2.length ≤ 100)
def picked (ps : List (Value × List UInt8)) (i : Nat) : List (Value × List UInt8) := (ps.take i).filter fits
theorem picked_mem {ps : List (Value × List UInt8)} {i : Nat} {p : Value × List UInt8} (h : p ∈ picked ps i) : p ∈ ps ∧ 1 ≤ p.2.length ∧ p.2.length ≤ 100 := by
  unfold picked at h
  rw [List.mem_filter] at h
  exact ⟨List.mem_of_mem_take h.1, by simpa [fits] using h.2⟩
theorem picked_step {ps : List (Value × List UInt8)} {i : Nat} {p : Value × List UInt8} (h : ps[i]? = some p) : picked ps (i + 1) = picked ps i ++ if fits p then [p] else [] := by
  unfold picked
  obtain ⟨hi, rfl⟩ := List.getElem?_eq_some_iff.1 h
  rw [List.take_succ_eq_append_getElem hi, List.filter_append]
  congr 1
  by_cases hf : fits ps[i] = true <;> simp [List.filter_cons, hf]
theorem picked_len (ps : List (Value × List UInt8)) (i : Nat) : (picked ps i).length ≤ i := by
  unfold picked
  have h1 := List.length_filter_le fits (ps.take i)
  rw [List.length_take] at h1
  omega
theorem picked_all (ps : List (Value × List UInt8)) {i : Nat} (h : ps.length ≤ i) (hi : i ≤ 30) : picked ps i = picked ps 30 := by
  unfold picked
  rw [List.take_of_length_le h, List.take_of_length_le (by omega)]
theorem picked_bytes (ps : List (Value × List UInt8)) : ∀ i, (recsB ((picked ps i).map (·.2))).length ≤ 108 * i := by
  intro i
  have h : ∀ qs : List (Value × List UInt8), (∀ q ∈ qs, q.2.length ≤ 100) → (recsB (qs.map (·.2))).length ≤ 108 * qs.length := by
    intro qs
    induction qs with
    | nil => intro _; simp [recsB]
    | cons q qs ih =>
      intro hq
      have := ih (fun x hx => hq x (by simp [hx]))
      have h1 := hq q (by simp)
      rw [List.map_cons, recsB_cons, List.length_append, recB_length, List.length_cons]
      omega
  have h1 := h (picked ps i) (fun q hq => (picked_mem hq).2.2)
  have h2 := picked_len ps i
  omega
theorem picked_good (ps : List (Value × List UInt8)) (i : Nat) : ∀ r ∈ (picked ps i).map (·.2), Good r := by
  intro r hr
  obtain ⟨p, hp, rfl⟩ := List.mem_map.1 hr
  have := picked_mem hp
  exact ⟨this.2.1, by omega⟩

/-- slices of what came in, in a row of the law's own -/
structure All (w0 w : World) (va : Value) (qs : List (Value × List UInt8)) : Prop where
  row : Own 22 1 w va qs.length (qs.map (·.1))
  new : ∀ k, Of va k → w0.heap.size ≤ k
  data : ∀ p ∈ qs, InB w0 p.1 p.2
section
variable {w0 w w1 : World} {va : Value} {qs : List (Value × List UInt8)}
theorem All.rds (h : All w0 w va qs) (hf : Fr No w0 w) : RdLs w va qs := ⟨h.row.rd, fun p hp => (h.data p hp).1.too hf⟩
theorem All.keep (h : All w0 w va qs) (hf : Fr No w w1) : All w0 w1 va qs := ⟨h.row.keep hf (fun k _ => not_no k), h.new, h.data⟩
theorem All.turn {g gl : Nat} {v : Value} {d : DSt} {l : LSt} (h : All w0 w va qs) (hd : IsDisk w g v d) (hl : IsLog w gl g l) (hf : Fr (fun k => Its g v k ∨ k = gl) w w1) : All w0 w1 va qs := by
  refine ⟨h.row.keep hf (fun k hk hs => ?_), h.new, h.data⟩
  rcases hs with (e | hi) | e
  · exact h.row.ne_ hd.blk (by decide) (e ▸ hk)
  · rcases hd.own.2 with ⟨h0, _⟩ | ⟨g', cap, cur, h0, hc, _⟩
    · rw [h0] at hi; exact Of_none hi
    · rw [h0] at hi
      rw [Of_some.1 hi] at hk
      exact h.row.ne_ (g' := g') (cs' := cur) hc (by decide) hk
  · exact h.row.ne_ hl (by decide) (e ▸ hk)
theorem All.disk {g : Nat} {v : Value} {d : DSt} (h : All w0 w va qs) (hd : IsDisk w g v d) (hf : Fr (Its g v) w w1) : All w0 w1 va qs := by
  refine ⟨h.row.keep hf (fun k hk hs => ?_), h.new, h.data⟩
  rcases hs with e | hi
  · exact h.row.ne_ hd.blk (by decide) (e ▸ hk)
  · rcases hd.own.2 with ⟨h0, _⟩ | ⟨g', cap, cur, h0, hc, _⟩
    · rw [h0] at hi; exact Of_none hi
    · rw [h0] at hi
      rw [Of_some.1 hi] at hk
      exact h.row.ne_ (g' := g') (cs' := cur) hc (by decide) hk
end
/-- other things of a law's own stay as they are where the row of all grows -/
theorem SL.grown {w0 w w1 : World} {g gl : Nat} {v va : Value} {d : DSt} {l : LSt} {n : Nat} {xs : List Value} (h : SL w0 w g v d gl l) (ho : Own 22 1 w va n xs) (hn : ∀ k, Of va k → w0.heap.size ≤ k) (hf : Fr (Of va) w w1) : SL w0 w1 g v d gl l := by
  refine ⟨⟨h.st.disk.keep hf (ho.ne_ h.st.disk.blk (by decide)) (fun k hk hk2 => ?_), h.st.fr.fresh hf hn, h.st.gnew, h.st.vnew⟩, Blk.keep h.log hf (ho.ne_ h.log (by decide)), h.lnew⟩
  rcases h.st.disk.own.2 with ⟨h0, _⟩ | ⟨g', cap, cur, h0, hc, _⟩
  · rw [h0] at hk; exact Of_none hk
  · rw [h0] at hk
    rw [Of_some.1 hk] at hk2
    exact ho.ne_ (g' := g') (cs' := cur) hc (by decide) hk2

def diskOf (most : Int) (rs : List (List UInt8)) (arm : Int) : DSt := ⟨most, recsB rs, (recsB rs).length, arm, false⟩
def logOf (rs : List (List UInt8)) : LSt := ⟨rs.length, (recsB rs).length, false⟩
theorem addL_of (most : Int) (rs : List (List UInt8)) (arm : Int) (r : List UInt8) (hr : Good r) (hm : ((recsB rs).length : Int) + (8 + r.length) ≤ most) (h1 : arm ≠ 0) (h2 : arm ≠ 1) (h3 : -1 ≤ arm) :
    addL (diskOf most rs arm) (logOf rs) r = (diskOf most (rs ++ [r]) (max (arm - 2) (-1)), logOf (rs ++ [r]), 0) := by
  rw [addL_ok (diskOf most rs arm) (logOf rs) r hr rfl rfl hm h1 h2 h3]
  show ((⟨most, recsB rs ++ recB r, (recsB rs ++ recB r).length, max (arm - 2) (-1), false⟩ : DSt), (⟨(rs.length : Int) + 1, ((recsB rs).length : Int) + ((recB r).length : Int), false⟩ : LSt), 0) = _
  unfold diskOf logOf
  rw [recsB_snoc, List.length_append, List.length_append]
  rfl

def RetBuilt (w : World) (qs : List (Value × List UInt8)) : Ending → World → Prop := fun e w' => ∃ g gl va v, e = .returned (.tuple #[.pointer (some ⟨g, 0, none⟩), .pointer (some ⟨gl, 0, none⟩), va, .bool true]) ∧
  SL w w' g v (diskOf 1048576 (qs.map (·.2)) (-1)) gl (logOf (qs.map (·.2))) ∧ All w w' va qs

set_option maxRecDepth 100000 in
set_option maxHeartbeats 2000000 in
theorem built_c (y : Value) (ps : List (Value × List UInt8)) (w : World) (hy : RdL w y ps) :
    Calls Try.prog 15 #[y] w (RetBuilt w (picked ps 30)) := by
  obtain ⟨A, c, rfl, hc⟩ := hy.1.slice_
  have HY := hid hy
  have HYS := hid (show RdLs w (.slice A ps.length c) ps from ⟨hy.1, fun p hp => (hy.2 p hp).1⟩)
  clear hy
  go_enter Try.func15, Try.ntmps15
  go_wp2_with fail
  refine (new_c 1048576 (by omega) (by omega) _).mono ?_
  rintro e w1 ⟨g, v1, rfl, I, F, hgn, hvn⟩
  have S1 := hid (St.new I F hgn hvn)
  clear I F hgn hvn
  go_wp2_with fail
  refine (open_ok S1.out.disk rfl (openD_whole _ [] rfl rfl (by simp))).mono ?_
  intro e w2 hr
  obtain ⟨gl, vo, ps0, v2, rfl, S', T', hps, F', G', hgl⟩ := SL.opened S1.out hr
  have S2 := hid (show SL w w2 g v2 (diskOf 1048576 ((picked ps 0).map (·.2)) (-1)) gl (logOf ((picked ps 0).map (·.2))) from S')
  obtain ⟨Ao, co, rfl, hco⟩ := T'.own.rds.1.slice_
  clear S' T' hps F' G' hr S1
  go_wp2_with fail
  go_loopg [11, 12] 30 (fun q v11 v12 w' => ∃ (i : Nat) (v : Value), v12 = .int .i64 i ∧ i ≤ 30 ∧ Hid (q = 30 - i) ∧ Hid (SL w w' g v (diskOf 1048576 ((picked ps i).map (·.2)) (-1)) gl (logOf ((picked ps i).map (·.2)))) ∧ Hid (All w w' v11 (picked ps i)))
  case atStart => exact ⟨0, v2, rfl, by omega, rfl, S2, ⟨Own.nil _ _ _, fun k hk => absurd hk Of_none, by simp [picked]⟩⟩
  case round =>
    clear S2
    obtain ⟨i, v, rfl, hi, HQ, S, AL⟩ := hrel
    obtain ⟨Aa, ca, rfl, hca, hcm⟩ := AL.out.row.slice
    by_cases d1 : i < ps.length ∧ i < 30
    · obtain ⟨d1, d2⟩ := d1
      have d3 : (i : Int) < ps.length := by omega
      have d4 : (i : Int) < 30 := by omega
      obtain ⟨b, off, A1, c1, xs, rfl, hz, k0, hx⟩ := (HYS.out.too S.out.st.fr).at_ d1
      have HZ := hid hz
      have HX := hid hx
      clear hz hx
      by_cases e1 : xs.length = 0
      · have e2 : ((xs.length : Int) == 0) = true := by simp; exact List.eq_nil_of_length_eq_zero e1
        have hst := picked_step HZ.out
        rw [show fits (.slice A1 xs.length c1, xs) = false by simp [fits]; omega] at hst
        simp only [Bool.false_eq_true, if_false, List.append_nil] at hst
        have HST := hid hst
        clear hst e1
        go_wp2_with fail
        go_roundg (30 - (i + 1))
        case measure => have := HQ.out; omega
        case rel => exact ⟨i + 1, v, by go_num, by omega, rfl, by rw [HST.out]; exact S, by rw [HST.out]; exact AL⟩
      · have e2 : ((xs.length : Int) == 0) = false := by rw [beq_eq_false_iff_ne]; omega
        by_cases e3 : 100 < xs.length
        · have e4 : (100 : Int) < xs.length := by omega
          have hst := picked_step HZ.out
          rw [show fits (.slice A1 xs.length c1, xs) = false by simp [fits]; omega] at hst
          simp only [Bool.false_eq_true, if_false, List.append_nil] at hst
          have HST := hid hst
          clear hst e1 e3
          go_wp2_with fail
          go_roundg (30 - (i + 1))
          case measure => have := HQ.out; omega
          case rel => exact ⟨i + 1, v, by go_num, by omega, rfl, by rw [HST.out]; exact S, by rw [HST.out]; exact AL⟩
        · have e4 : ¬ (100 : Int) < xs.length := by omega
          have hst := picked_step HZ.out
          rw [show fits (.slice A1 xs.length c1, xs) = true by simp [fits]; omega] at hst
          simp only [if_true] at hst
          have HST := hid hst
          have hpb := picked_bytes ps i
          have hpl := picked_len ps i
          have hadd := addL_of 1048576 ((picked ps i).map (·.2)) (-1) xs ⟨by omega, by omega⟩ (by omega) (by omega) (by omega) (by omega)
          have HADD := hid hadd
          have HB1 := hid (show (0 : Int) ≤ (logOf ((picked ps i).map (·.2))).n ∧ (logOf ((picked ps i).map (·.2))).n ≤ 4611686018427387904 ∧ (0 : Int) ≤ (logOf ((picked ps i).map (·.2))).bytes ∧ (logOf ((picked ps i).map (·.2))).bytes ≤ 4611686018427387904 by unfold logOf; simp only [List.length_map]; omega)
          have hb1 : (picked ps i).length + 1 ≤ maxLen := by simp only [maxLen]; omega
          have hb2 : ((picked ps i).length + 1) * 24 ≤ 140737488355328 := by omega
          have HMEM := hid (HY.out.2 _ (List.mem_of_getElem? HZ.out))
          clear hst e1 e3 hadd hpb
          go_wp2_with fail
          refine (add_c S.out.st.disk S.out.log _ xs HX.out HB1.out.1 HB1.out.2.1 HB1.out.2.2.1 HB1.out.2.2.2 _ HADD.out).mono ?_
          intro e w3 hr
          obtain ⟨v3, rfl, S', F3, G3⟩ := S.out.add hr
          have S3 := hid S'
          have AL3 := hid (AL.out.turn S.out.st.disk S.out.log F3)
          have k03 : w3.cell? ⟨b, off + i, none⟩ = some (.slice A1 xs.length c1) := by
            obtain ⟨b', off', A1', c1', xs', hv, hz', k0', _⟩ := (HYS.out.too S'.st.fr).at_ d1
            injection hv with hv
            injection hv with hv1 hv2
            subst hv1 hv2
            rw [HZ.out] at hz'
            injection hz' with hz'
            injection hz' with hz1 hz2
            subst hz2
            rw [hz1]
            exact k0'
          clear S' F3 G3 hr k0
          have k0 := k03
          have HROW := hid (AL3.out.row.keep ((Fr.refl No w3).alloc (.cells #[.slice A1 xs.length c1] 22)) (fun k _ => not_no k))
          go_wp2_with (at_builtin; refine wpl_app _ rfl (.tmp 64) (.tmp 69) _ rfl 22 _ 1 24 Try.underlying31 infoS (by rfl) (.slice Aa (picked ps i).length ca) (picked ps i).length ((picked ps i).map (·.1)) rfl HROW.out (.slice (some ⟨w3.heap.size, 0, none⟩) 1 1) 1 [.slice A1 xs.length c1] rfl (Rd.lit1 w3 22 #[.slice A1 xs.length c1] 1 rfl) (by intro u hu; simp only [List.mem_singleton] at hu; subst hu; rfl) hb1 hb2 ?_; intro v5 w5 o5 f5 g5; have S5 := hid ((S3.out.keep ((Fr.refl No w3).alloc (.cells #[.slice A1 xs.length c1] 22))).grown HROW.out AL3.out.new f5); have AL5 := hid (show All w w5 v5 (picked ps i ++ [(.slice A1 xs.length c1, xs)]) from ⟨by simpa using o5, (fun k hk => by rcases g5 k hk with h | h; exact AL3.out.new k h; have := S3.out.st.fr.size; simp at h; omega), (fun p hp => by rcases List.mem_append.1 hp with hp | hp; exact AL3.out.data p hp; rw [List.mem_singleton.1 hp]; exact HMEM.out)⟩); clear o5 f5 g5)
          go_roundg (30 - (i + 1))
          case measure => have := HQ.out; omega
          case rel => exact ⟨i + 1, v3, by go_num, by omega, rfl, by rw [HST.out, List.map_append]; exact S5, by rw [HST.out]; exact AL5⟩
    · have hend : ((i : Int) < ps.length ∧ ¬ (i : Int) < 30) ∨ ¬ (i : Int) < ps.length := by omega
      have hpk : picked ps i = picked ps 30 := by
        rcases (show i = 30 ∨ ps.length ≤ i by omega) with rfl | h
        · rfl
        · exact picked_all ps h hi
      rw [hpk] at S AL hca
      have HPK := hid (show (picked ps i).length = (picked ps 30).length by rw [hpk])
      clear d1 hpk
      rcases hend with ⟨he1, he2⟩ | he1
      all_goals
        go_wp2_with fail
        refine ⟨rfl, ?_⟩
        refine ⟨.tuple #[.pointer (some ⟨g, 0, none⟩), .pointer (some ⟨gl, 0, none⟩), .slice Aa (picked ps 30).length ca, .bool true], ?_, ?_⟩
        · have hres : Try.f15.results = #[.tmp 2, .tmp 3, .tmp 4, .tmp 5] := rfl
          rw [← HPK.out]
          simp [results, hres, asAddr]
          try go_simp
        · exact ⟨g, gl, _, v, rfl, S.out, AL.out⟩
end Go.Proofs.Ytfbhcapcnkcfdaa
