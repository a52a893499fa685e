import Derived.Test.YtfbhcapcnkcfdaaLogG
/-! LogBack: what was added is told by Open, record by record; it goes on behind them. -/
namespace Go.Proofs.Ytfbhcapcnkcfdaa
open Go.RowKit
set_option linter.unusedVariables false
set_option linter.unusedSimpArgs false

theorem OwnL.apart {w w1 : World} {base n : Nat} {v va : Value} {ps : List (Value × List UInt8)} {xs : List Value} (h : OwnL w base v ps) (ho : Own 22 1 w va n xs) (hlt : ∀ k, Of va k → k < base) (hf : Fr (Of va) w w1) : OwnL w1 base v ps :=
  h.keep hf (fun k hk hk2 => by have h1 := h.new k hk; have h2 := hlt k hk2; omega) (fun p hp k hk hk2 => by
    rcases (h.data p hp).2 with ⟨h0, _⟩ | ⟨g', cap, cur, h0, hc, _⟩
    · rw [h0] at hk; exact Of_none hk
    · rw [h0] at hk
      rw [Of_some.1 hk] at hk2
      exact ho.ne_ (g' := g') (cs' := cur) hc (by decide) hk2)
theorem All.push {w0 w w1 : World} {va v1 : Value} {qs : List (Value × List UInt8)} (h : All w0 w va qs) (p : Value × List UInt8) (hp : InB w0 p.1 p.2) (hw : w0.heap.size ≤ w.heap.size) (o : Own 22 1 w1 v1 (qs.length + 1) (qs.map (·.1) ++ [p.1])) (g : ∀ k, Of v1 k → Of va k ∨ k = w.heap.size) : All w0 w1 v1 (qs ++ [p]) :=
  ⟨by simpa using o, fun k hk => by rcases g k hk with h1 | h1; exact h.new k h1; omega, fun q hq => by rcases List.mem_append.1 hq with hq | hq; exact h.data q hq; rw [List.mem_singleton.1 hq]; exact hp⟩

set_option maxRecDepth 100000 in
set_option maxHeartbeats 4000000 in
theorem logBack_c (y : Value) (ps : List (Value × List UInt8)) (z : Value) (more : List UInt8) (w : World) (hy : RdL w y ps) (hz : InB w z more) :
    Calls Try.prog 5 #[y, z] w (RetT w) := by
  obtain ⟨A, c, rfl, hc⟩ := hy.1.slice_
  obtain ⟨Az, cz, rfl, hcz⟩ := hz.1.slice
  have HY := hid hy
  have HZ := hid hz
  clear hy hz
  have hgd := picked_good ps 30
  have hpb := picked_bytes ps 30
  have hpl := picked_len ps 30
  obtain ⟨qs, hqs⟩ : ∃ qs, picked ps 30 = qs := ⟨_, rfl⟩
  rw [hqs] at hgd hpb hpl
  have HQS := hid hqs
  have HGD := hid hgd
  have HPB := hid (show (recsB (qs.map (·.2))).length ≤ 3240 from hpb)
  have HPL := hid hpl
  clear hqs hgd hpb hpl
  have HOP := hid (openD_whole (diskOf 1048576 (qs.map (·.2)) (-1)) (qs.map (·.2)) rfl rfl HGD.out)
  go_enter Try.func5, Try.ntmps5
  go_wp2_with fail
  refine (built_c _ ps _ HY.out).mono ?_
  rw [HQS.out]
  rintro e w1 ⟨g, gl, va, v, rfl, S', AL'⟩
  have S := hid S'
  have AL := hid AL'
  obtain ⟨Aa, ca, rfl, hca, hcm⟩ := AL'.row.slice
  have hl30 : qs.length ≤ 30 := HPL.out
  clear S' AL'
  go_wp2_with fail
  go_loopg [9, 10] qs.length (fun q v9 v10 w' => ∃ (i n : Nat), v9 = .int .i64 n ∧ v10 = .int .i64 i ∧ i ≤ qs.length ∧ n ≤ 108 * i ∧ Hid (q = qs.length - i) ∧ Hid (n = (recsB ((qs.take i).map (·.2))).length) ∧ w' = w1)
  case atStart => exact ⟨0, 0, rfl, rfl, by omega, by omega, rfl, rfl, rfl⟩
  case round =>
    obtain ⟨i, n, rfl, rfl, hi, hn, HQ, HN, rfl⟩ := hrel
    by_cases d1 : i < qs.length
    · obtain ⟨b, off, A1, c1, xs, rfl, hz, k0, hx⟩ := (AL.out.rds S.out.st.fr).at_ d1
      have hxl : xs.length ≤ 100 := (picked_mem (by rw [HQS.out]; exact List.mem_of_getElem? hz)).2.2
      have hst : (recsB ((qs.take (i + 1)).map (·.2))).length = n + 8 + xs.length := by
        obtain ⟨hh, he⟩ := List.getElem?_eq_some_iff.1 hz
        rw [List.take_succ_eq_append_getElem hh, he, List.map_append, List.map_cons, List.map_nil, recsB_snoc_len, ← HN.out]
        dsimp only
        omega
      have HST := hid hst
      have i1 : (i : Int) < qs.length := by omega
      clear hz hx hst
      go_wp2_with fail
      go_roundg (qs.length - (i + 1))
      case measure => have := HQ.out; omega
      case rel => exact ⟨i + 1, n + 8 + xs.length, by go_num, by go_num, by omega, by omega, rfl, HST.out.symm, rfl⟩
    · have i1 : ¬ (i : Int) < qs.length := by omega
      have hn2 : n = (recsB (qs.map (·.2))).length := by rw [HN.out, List.take_of_length_le (by omega)]
      have HN2 := hid hn2
      clear hn2
      go_wp2_with fail
      refine (open_ok S.out.st.disk rfl HOP.out).mono ?_
      intro e w2 hr
      obtain ⟨gm, vm, ms, v2, rfl, M', T', hms, F', G', hgm⟩ := SL.opened S.out.st hr
      have S2 := hid (S.out.disk M'.st.disk F' G')
      have M2 := hid M'
      have T2 := hid T'
      have AL2 := hid (AL.out.disk S.out.st.disk F')
      have HMS := hid hms
      obtain ⟨Am, cm, rfl, hcm2⟩ := T'.own.rds.1.slice_
      clear M' T' hms F' G' hr
      go_wp2_with fail
      refine (open_ok S2.out.st.disk rfl HOP.out).mono ?_
      intro e w3 hr
      obtain ⟨gk', vk, ks, v3, rfl, K', U', hks, F', G', hgk⟩ := SL.opened S2.out.st hr
      have S3 := hid (S2.out.disk K'.st.disk F' G')
      have M3 := hid (M2.out.disk K'.st.disk F' G')
      have T3 := hid (T2.out.disk S2.out.st.disk F' (fun _ h => .inl h) G')
      have K3 := hid K'
      have U3 := hid U'
      have AL3 := hid (AL2.out.disk S2.out.st.disk F')
      have HKS := hid hks
      obtain ⟨Ak, ck, rfl, hck⟩ := U'.own.rds.1.slice_
      have hlm : ms.length = qs.length := by have := congrArg List.length HMS.out; simpa using this
      have hlk : ks.length = qs.length := by have := congrArg List.length HKS.out; simpa using this
      have HLM := hid (show ms.length ≤ 4611686018427387904 by omega)
      have HLK := hid (show ks.length ≤ 4611686018427387904 by omega)
      have E1 := hid (show (logOf (qs.map (·.2))).n = (qs.length : Int) by simp [logOf])
      have E1' := hid (show ((qs.map (·.2)).length : Int) = (qs.length : Int) by simp)
      have E2 := hid (show (logOf (qs.map (·.2))).bytes = (n : Int) by rw [HN2.out]; rfl)
      have E2' := hid (show (((recsB (qs.map (·.2))).length : Nat) : Int) = (n : Int) by rw [HN2.out])
      clear K' U' hks F' G' hr hlm hlk M2 T2 S2 AL2
      go_wp2_with fail
      refine (sameL_yes _ _ ms qs _ T3.out.own.rds (AL3.out.rds S3.out.st.fr) HMS.out HLM.out).mono ?_
      rintro e w4 ⟨rfl, n4, rfl⟩
      have F4 := (Fr.refl No w3).drewN n4
      have S4 := hid (S3.out.keep F4)
      have M4 := hid (M3.out.keep F4)
      have K4 := hid (K3.out.keep F4)
      have U4 := hid (U3.out.keep F4)
      have AL4 := hid (AL3.out.keep F4)
      clear F4 S3 M3 K3 U3 AL3 T3
      go_wp2_with fail
      refine (sameL_yes _ _ ks qs _ U4.out.own.rds (AL4.out.rds S4.out.st.fr) HKS.out HLK.out).mono ?_
      rintro e w5 ⟨rfl, n5, rfl⟩
      have F5 := (Fr.refl No (w3.drewN n4)).drewN n5
      have S5 := hid (S4.out.keep F5)
      have M5 := hid (M4.out.keep F5)
      have K5 := hid (K4.out.keep F5)
      have AL5 := hid (AL4.out.keep F5)
      clear F5 S4 M4 K4 U4 AL4
      generalize (w3.drewN n4).drewN n5 = w5 at S5 M5 K5 AL5 ⊢
      go_wp2_with fail
      refine (llen_c S5.out.log).mono ?_
      rintro e wx ⟨rfl, rfl⟩
      rw [E1.out]
      go_wp2_with fail
      refine (llen_c M5.out.log).mono ?_
      rintro e wx ⟨rfl, rfl⟩
      try rw [E1'.out]
      go_wp2_with fail
      refine (lbytes_c S5.out.log).mono ?_
      rintro e wx ⟨rfl, rfl⟩
      rw [E2.out]
      go_wp2_with fail
      refine (lbytes_c K5.out.log).mono ?_
      rintro e wx ⟨rfl, rfl⟩
      try rw [E2'.out]
      go_wp2_with fail
      refine (size_c S5.out.st.disk).mono ?_
      rintro e wx ⟨rfl, rfl⟩
      try (rw [show (((diskOf 1048576 (qs.map (·.2)) (-1)).bytes.length : Nat) : Int) = (n : Int) from E2'.out])
      go_wp2_with fail
      refine (synced_c S5.out.st.disk).mono ?_
      rintro e wx ⟨rfl, rfl⟩
      try (rw [show (((diskOf 1048576 (qs.map (·.2)) (-1)).synced : Nat) : Int) = (n : Int) from E2'.out])
      by_cases m0 : more.length = 0 ∨ 100 < more.length
      · have hm : ((more.length : Int) == 0) = true ∨ (((more.length : Int) == 0) = false ∧ (100 : Int) < more.length) := by
          rcases m0 with h | h
          · left; simp; exact List.eq_nil_of_length_eq_zero h
          · right; exact ⟨by rw [beq_eq_false_iff_ne]; omega, by omega⟩
        clear m0
        rcases hm with h1 | ⟨h1, h2⟩
        all_goals
          go_wp2_with fail
          refine (awake_c _).mono ?_
          rintro e w8 ⟨rfl, B⟩
          have F8 := hid (S5.out.st.fr.fresh_no B)
          clear B
          go_wp2_with fail
          go_ret
          exact ⟨rfl, F8.out⟩
      · have m1 : ((more.length : Int) == 0) = false := by rw [beq_eq_false_iff_ne]; omega
        have m2 : ¬ (100 : Int) < more.length := by omega
        have hadd := addL_of 1048576 (qs.map (·.2)) (-1) more ⟨by omega, by omega⟩ (by have h0 : (recsB (qs.map (·.2))).length ≤ 3240 := HPB.out; omega) (by omega) (by omega) (by omega)
        have HADD := hid hadd
        have HGM := hid (show ∀ r ∈ qs.map (·.2) ++ [more], Good r from fun r hr => by
          rcases List.mem_append.1 hr with hr | hr
          · exact HGD.out r hr
          · rw [List.mem_singleton.1 hr]; exact ⟨by omega, by omega⟩)
        have HOP2 := hid (openD_whole (diskOf 1048576 (qs.map (·.2) ++ [more]) (-1)) (qs.map (·.2) ++ [more]) rfl rfl HGM.out)
        have HB1 := hid (show (0 : Int) ≤ (logOf (qs.map (·.2))).n ∧ (logOf (qs.map (·.2))).n ≤ 4611686018427387904 ∧ (0 : Int) ≤ (logOf (qs.map (·.2))).bytes ∧ (logOf (qs.map (·.2))).bytes ≤ 4611686018427387904 by rw [E1.out, E2.out]; omega)
        have hb1 : qs.length + 1 ≤ maxLen := by simp only [maxLen]; omega
        have hb2 : (qs.length + 1) * 24 ≤ 140737488355328 := by omega
        have E3 := hid (show (((qs.map (·.2) ++ [more]).length : Nat) : Int) = (qs.length : Int) + 1 by simp)
        clear m0 hadd
        go_wp2_with fail
        refine (add_c K5.out.st.disk K5.out.log _ more (HZ.out.1.too S5.out.st.fr) HB1.out.1 HB1.out.2.1 HB1.out.2.2.1 HB1.out.2.2.2 _ HADD.out).mono ?_
        intro e w6 hr
        obtain ⟨v6, rfl, K', F6, G6⟩ := K5.out.add hr
        have K6 := hid K'
        have AL6 := hid (AL5.out.turn K5.out.st.disk K5.out.log F6)
        have HLT := hid (show ∀ k, Of (.slice Aa qs.length ca) k → k < w6.heap.size from AL6.out.row.lt)
        clear K' F6 G6 hr
        go_wp2_with fail
        refine (open_ok K6.out.st.disk rfl HOP2.out).mono ?_
        intro e w7 hr
        obtain ⟨gn, vn, ns, v7, rfl, N', X', hns, F', G', hgn⟩ := SL.opened K6.out.st hr
        have K7 := hid (K6.out.disk N'.st.disk F' G')
        have X7 := hid X'
        have AL7 := hid (AL6.out.disk K6.out.st.disk F')
        have HNS := hid hns
        obtain ⟨An, cn, rfl, hcn⟩ := X'.own.rds.1.slice_
        have HLN := hid (show ns.length ≤ 4611686018427387904 by have := congrArg List.length HNS.out; simp at this; omega)
        have HROW := hid (AL7.out.row.keep ((Fr.refl No w7).alloc (.cells #[.slice Az more.length cz] 22)) (fun k _ => not_no k))
        clear N' X' hns F' G' hr
        go_wp2_with (at_builtin; refine wpl_app_g _ (by rfl) (.tmp 138) (.tmp 140) _ rfl 22 _ 1 24 Try.underlying31 infoS (by rfl) (.slice Aa qs.length ca) qs.length (qs.map (·.1)) rfl HROW.out (.slice (some ⟨w7.heap.size, 0, none⟩) 1 1) 1 [.slice Az more.length cz] rfl (Rd.lit1 w7 22 #[.slice Az more.length cz] 1 rfl) (by intro u hu; simp only [List.mem_singleton] at hu; subst hu; rfl) hb1 hb2 ?_; intro v8 w8 o8 f8 g8; have AL8 := hid ((AL7.out.keep ((Fr.refl No w7).alloc (.cells #[.slice Az more.length cz] 22))).push (.slice Az more.length cz, more) HZ.out ((K7.out.st.fr.alloc _).size) o8 g8); have K8 := hid ((K7.out.keep ((Fr.refl No w7).alloc (.cells #[.slice Az more.length cz] 22))).grown HROW.out AL7.out.new f8); have X8 := hid (show RdLs w8 (.slice An ns.length cn) ns from ((X7.out.own.keep_no ((Fr.refl No w7).alloc (.cells #[.slice Az more.length cz] 22))).apart HROW.out HLT.out f8).rds); clear o8 f8 g8)
        refine (sameL_yes _ _ ns (qs ++ [(.slice Az more.length cz, more)]) _ X8.out (AL8.out.rds K8.out.st.fr) (by rw [HNS.out]; simp) HLN.out).mono ?_
        rintro e w9 ⟨rfl, n9, rfl⟩
        have K9 := hid (K8.out.keep ((Fr.refl No w8).drewN n9))
        clear AL8 K8 X8
        go_wp2_with fail
        refine (llen_c K9.out.log).mono ?_
        rintro e wx ⟨rfl, rfl⟩
        rw [show (logOf (qs.map (·.2) ++ [more])).n = (qs.length : Int) + 1 from E3.out]
        go_wp2_with fail
        refine (awake_c _).mono ?_
        rintro e w10 ⟨rfl, B⟩
        have F10 := hid (K9.out.st.fr.fresh_no B)
        clear B
        go_wp2_with fail
        go_ret
        exact ⟨rfl, F10.out⟩
end Go.Proofs.Ytfbhcapcnkcfdaa
