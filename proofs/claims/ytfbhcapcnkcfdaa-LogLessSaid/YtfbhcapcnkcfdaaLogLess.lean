import Derived.Test.YtfbhcapcnkcfdaaLogG
import Derived.Test.YtfbhcapcnkcfdaaDiskT
/-! LogLess: the fewer bytes the disk has, the shorter the begin that is told. -/
namespace Go.Proofs.Ytfbhcapcnkcfdaa
open Go.RowKit
set_option linter.unusedVariables false
set_option linter.unusedSimpArgs false

/-- what Open does of any disk whose power is on -/
theorem openD_any (d : DSt) (h1 : d.down = false) (h6 : d.arm ≠ 0) : ∃ d2, openD d = (d2, wholeL d.bytes, 0) ∧ d2.bytes.length = (recsB (wholeL d.bytes)).length ∧ d2.down = false := by
  have hle := wholeL_size _ d.bytes (Nat.le_refl _)
  unfold openD
  rw [h1, if_neg nf]
  by_cases hlt : (recsB (wholeL d.bytes)).length < d.bytes.length
  · rw [if_pos hlt]
    have hc : cutD d ((recsB (wholeL d.bytes)).length : Int) = (⟨d.most, d.bytes.take (recsB (wholeL d.bytes)).length, (recsB (wholeL d.bytes)).length, max (d.arm - 1) (-1), false⟩, 0) := by
      unfold cutD operD
      rw [h1, if_neg nf, if_neg (show ¬ ((if ((recsB (wholeL d.bytes)).length : Int) < 0 ∨ (d.bytes.length : Int) < (recsB (wholeL d.bytes)).length then 2 else 0 : Nat) ≠ 0) by rw [if_neg (by omega)]; simp), if_neg h6]
      dsimp only
      rw [Int.toNat_natCast]
    rw [hc, if_pos rfl]
    exact ⟨_, rfl, by simp; omega, rfl⟩
  · rw [if_neg hlt]
    exact ⟨d, rfl, by omega, h1⟩
theorem cutD_of (most : Int) (bs : List UInt8) (s : Nat) (p : Nat) (hp : p ≤ bs.length) : cutD ⟨most, bs, s, -1, false⟩ (p : Int) = (⟨most, bs.take p, p, -1, false⟩, 0) := by
  unfold cutD operD
  rw [if_neg nf, if_neg (show ¬ ((if ((p : Int)) < 0 ∨ (bs.length : Int) < p then 2 else 0 : Nat) ≠ 0) by rw [if_neg (by omega)]; simp), if_neg (by simp)]
  dsimp only
  rw [Int.toNat_natCast]
  rfl
theorem RdLs.take {w : World} {A : Option Addr} {c m : Nat} {ps : List (Value × List UInt8)} (h : RdLs w (.slice A ps.length c) ps) (hm : m ≤ ps.length) (hc : m ≤ c) : RdLs w (.slice A m c) (ps.take m) := by
  have hr := Rd.take (m := m) (c' := c) (show Rd 1 w (.slice A ps.length c) ps.length (ps.map (·.1)) from h.1) hm hc
  refine ⟨?_, fun p hp => h.2 p (List.mem_of_mem_take hp)⟩
  rw [List.length_take, Nat.min_eq_left hm, List.map_take]
  simpa using hr
theorem emod_nat (a : Int) (n : Nat) : ∃ k : Nat, a % ((n : Int) + 1) = k ∧ k ≤ n := by
  have h1 := Int.emod_nonneg a (show ((n : Int) + 1) ≠ 0 by omega)
  have h2 := Int.emod_lt_of_pos a (show (0 : Int) < (n : Int) + 1 by omega)
  exact ⟨(a % ((n : Int) + 1)).toNat, by omega, by omega⟩
/-- a list of the law's own is told where another disk is turned -/
theorem OwnL.older {w w1 : World} {base g : Nat} {v vo : Value} {ps : List (Value × List UInt8)} (h : OwnL w base vo ps) (hlt : ∀ k, Its g v k → k < base) (hf : Fr (Its g v) w w1) : OwnL w1 base vo ps :=
  h.keep hf (fun k hk hi => by have h1 := h.new k hk; have h2 := hlt k hi; omega) (fun p hp k hk hi => by have h1 := h.far p hp k hk; have h2 := hlt k hi; omega)

set_option maxRecDepth 100000 in
set_option maxHeartbeats 4000000 in
theorem logLess_c (y : Value) (ps : List (Value × List UInt8)) (one two : Int) (o0 : 0 ≤ one) (o1 : one ≤ 65535) (t0 : 0 ≤ two) (t1 : two ≤ 65535) (w : World) (hy : RdL w y ps) :
    Calls Try.prog 4 #[y, .int .u16 one, .int .u16 two] w (RetT w) := by
  obtain ⟨A, c, rfl, hc⟩ := hy.1.slice_
  have HY := hid hy
  clear hy
  have hgd := picked_good ps 30
  have hpb := picked_bytes ps 30
  have hpl := picked_len ps 30
  obtain ⟨qs, hqs⟩ : ∃ qs, picked ps 30 = qs := ⟨_, rfl⟩
  rw [hqs] at hgd hpb hpl
  obtain ⟨N, hN⟩ : ∃ N, (recsB (qs.map (·.2))).length = N := ⟨_, rfl⟩
  have HQS := hid hqs
  have HGD := hid hgd
  have hn : N ≤ 3240 := by rw [← hN]; exact hpb
  have HPL := hid hpl
  have HNN := hid hN
  obtain ⟨k, hk, hk2⟩ := emod_nat one N
  obtain ⟨m, hm, hm2⟩ := emod_nat two N
  obtain ⟨pa, hpa⟩ : ∃ pa, min k m = pa := ⟨_, rfl⟩
  obtain ⟨pb, hpb2⟩ : ∃ pb, max k m = pb := ⟨_, rfl⟩
  have HKE := hid hk
  have HME := hid hm
  have HPA := hid (show min (k : Int) (m : Int) = pa by omega)
  have HPB := hid (show max (k : Int) (m : Int) = pb by omega)
  have hab : pa ≤ pb := by omega
  have hbN : pb ≤ N := by omega
  obtain ⟨ja, hja, hwa, hmono⟩ := wholeL_take (qs.map (·.2)) hgd pa
  obtain ⟨jb, hjb, hwb, _⟩ := wholeL_take (qs.map (·.2)) hgd pb
  have hjab : ja ≤ jb := hmono pb hab jb hjb hwb
  have hca := cutD_of 1048576 (recsB (qs.map (·.2))) (recsB (qs.map (·.2))).length pa (by omega)
  have hcb := cutD_of 1048576 (recsB (qs.map (·.2))) (recsB (qs.map (·.2))).length pb (by omega)
  obtain ⟨da, hda, hda2, hda3⟩ := openD_any ⟨1048576, (recsB (qs.map (·.2))).take pa, pa, -1, false⟩ rfl (by simp)
  obtain ⟨db, hdb, hdb2, hdb3⟩ := openD_any ⟨1048576, (recsB (qs.map (·.2))).take pb, pb, -1, false⟩ rfl (by simp)
  replace hda : openD ⟨1048576, (recsB (qs.map (·.2))).take pa, pa, -1, false⟩ = (da, (qs.map (·.2)).take ja, 0) := by rw [hda]; dsimp only; rw [hwa]
  replace hdb : openD ⟨1048576, (recsB (qs.map (·.2))).take pb, pb, -1, false⟩ = (db, (qs.map (·.2)).take jb, 0) := by rw [hdb]; dsimp only; rw [hwb]
  replace hda2 : da.bytes.length = (recsB ((qs.map (·.2)).take ja)).length := by rw [hda2]; dsimp only; rw [hwa]
  replace hdb2 : db.bytes.length = (recsB ((qs.map (·.2)).take jb)).length := by rw [hdb2]; dsimp only; rw [hwb]
  have HCA := hid hca
  have HCB := hid hcb
  have HDA := hid hda
  have HDB := hid hdb
  have HDA2 := hid hda2
  have HDB2 := hid hdb2
  have HJ := hid (show ja ≤ jb ∧ jb ≤ qs.length by simp at hjb; exact ⟨hjab, hjb⟩)
  have kx := fun (a b : Int) (w : World) => run_max2 (P := Try.prog) (w := w) (k := .i64) (ats := #[3, 3]) (ty := 3) a b
  have kn := fun (a b : Int) (w : World) => run_min2 (P := Try.prog) (w := w) (k := .i64) (ats := #[3, 3]) (ty := 3) a b
  have EN := hid (show (((diskOf 1048576 (qs.map (·.2)) (-1)).bytes.length : Nat) : Int) = (N : Int) by rw [← hN]; rfl)
  have hw1 : IntKind.i64.wrap ((N : Int) + 1) = (N : Int) + 1 := by rw [IntKind.wrap_i64]; omega
  have hz1 : (((N : Int) + 1) == 0) = false := by rw [beq_eq_false_iff_ne]; omega
  clear hqs hgd hpb hpl hN hk hk2 hm hm2 hpa hpb2 hab hja hwa hmono hjb hwb hjab hca hcb hda hdb hda2 hdb2 hda3 hdb3 hbN
  go_enter Try.func4, Try.ntmps4
  go_wp2_with fail
  refine (built_c _ ps _ HY.out).mono ?_
  rw [HQS.out]
  rintro e w1 ⟨ga, gl, va, v1, rfl, S', AL'⟩
  have S1 := hid S'
  have AL1 := hid AL'
  obtain ⟨Aa, ca, rfl, hca, hcm⟩ := AL'.row.slice
  have HY1 := hid (show RdL w1 (.slice A ps.length c) ps from ⟨HY.out.1.keep S'.st.fr (fun k _ => not_no k), fun p hp => ⟨(HY.out.2 p hp).1.too S'.st.fr, fun h0 k hk => Nat.lt_of_lt_of_le ((HY.out.2 p hp).2 h0 k hk) S'.st.fr.size⟩⟩)
  clear S' AL'
  go_wp2_with fail
  refine (built_c _ ps _ HY1.out).mono ?_
  rw [HQS.out]
  rintro e w2 ⟨gb, glb, vb, v2, rfl, S', AL'⟩
  have F2 := S'.st.fr
  have D2 := hid (show St2 w w2 ga v1 (diskOf 1048576 (qs.map (·.2)) (-1)) gb v2 (diskOf 1048576 (qs.map (·.2)) (-1)) from
    ⟨S1.out.st.keep F2, ⟨S'.st.disk, S1.out.st.fr.fresh_no F2, Nat.le_trans S1.out.st.fr.size S'.st.gnew, fun k hk => Nat.le_trans S1.out.st.fr.size (S'.st.vnew k hk)⟩, by have h1 := S1.out.st.disk.lt; have h2 := S'.st.gnew; omega, fun k hk hk2 => by have h1 := S1.out.st.disk.own.lt k hk; have h2 := S'.st.vnew k hk2; omega⟩)
  have AL2 := hid (AL1.out.keep F2)
  obtain ⟨Ab, cb, rfl, hcb, hcbm⟩ := AL'.row.slice
  clear S' AL' F2 S1 AL1
  go_wp2_with fail
  go_quiet ((first
    | (go_at_call 16; exact Calls.quiet_of_same ((size_c (D2.out.a.disk.drewN _)).mono (fun _ _ h => ⟨h.1.trans (by rw [EN.out]), h.2⟩)))))
  rw [HKE.out, HME.out]
  have D3 := hid (D2.out.keep ((Fr.refl No w2).drewN nq))
  have AL3 := hid (AL2.out.keep ((Fr.refl No w2).drewN nq))
  clear D2 AL2
  generalize w2.drewN nq = w3 at D3 AL3 ⊢
  go_wp2_with fail
  rw [HPA.out]
  refine (cut_c D3.out.a.disk (pa : Int) _ HCA.out).mono ?_
  rintro e w4 ⟨v4, rfl, I, F, G⟩
  have D4 := hid (D3.out.toA I F G)
  have AL4 := hid (AL3.out.disk D3.out.a.disk F)
  clear I F G D3 AL3
  go_wp2_with fail
  rw [HPB.out]
  refine (cut_c D4.out.b.disk (pb : Int) _ HCB.out).mono ?_
  rintro e w5 ⟨v5, rfl, I, F, G⟩
  have D5 := hid (D4.out.swap.toA I F G).swap
  have AL5 := hid (AL4.out.disk D4.out.b.disk F)
  clear I F G D4 AL4
  go_wp2_with fail
  refine (open_ok D5.out.a.disk rfl HDA.out).mono ?_
  rintro e w6 ⟨gx, vu, us, v6, rfl, I, X', hgx, U', hus, F, G, hsep⟩
  have D6 := hid (D5.out.toA I F G)
  have AL6 := hid (AL5.out.disk D5.out.a.disk F)
  have X6 := hid X'
  have U6 := hid U'
  have HUS := hid hus
  obtain ⟨Au, cu, rfl, hcu⟩ := U'.rds.1.slice_
  have HLTB := hid (show ∀ q, Its gb v5 q → q < w5.heap.size from fun q hq => D5.out.b.disk.its_lt hq)
  have HGX := hid hgx
  clear I F G X' U' hus hsep hgx AL5
  go_wp2_with fail
  refine (open_ok D6.out.b.disk rfl HDB.out).mono ?_
  rintro e w7 ⟨gy, vv, vs, v7, rfl, I, Y', hgy, V', hvs, F, G, hsep⟩
  have D7 := hid (D6.out.swap.toA I F G).swap
  have AL7 := hid (AL6.out.disk D6.out.b.disk F)
  have X7 := hid (Blk.keep X6.out F (fun h => by have h1 := HLTB.out _ h; have h2 := HGX.out; omega))
  have U7 := hid (U6.out.older HLTB.out F)
  have Y7 := hid Y'
  have V7 := hid V'
  have HVS := hid hvs
  obtain ⟨Av, cv, rfl, hcv⟩ := V'.rds.1.slice_
  have hul : us.length = ja := by have h := congrArg List.length HUS.out; have := HJ.out; simp at h; omega
  have hvl : vs.length = jb := by have h := congrArg List.length HVS.out; have := HJ.out; simp at h; omega
  have L1 := hid (show us.length ≤ vs.length by have := HJ.out; omega)
  have L2 := hid (show vs.length ≤ qs.length by have := HJ.out; omega)
  have hl1 : (us.length : Int) ≤ vs.length := by have := L1.out; omega
  have hl2 : (vs.length : Int) ≤ qs.length := by have := L2.out; omega
  have hl3 : (us.length : Int) ≤ cv := by omega
  have hl4 : (vs.length : Int) ≤ ca := by omega
  have hl0 : (0 : Int) ≤ us.length := by omega
  have hl00 : (0 : Int) ≤ vs.length := by omega
  have HLL := hid (show us.length ≤ 4611686018427387904 ∧ vs.length ≤ 4611686018427387904 by have := L1.out; have := L2.out; have := HPL.out; omega)
  have EA := hid (show us.map (·.2) = (vs.take us.length).map (·.2) by rw [HUS.out, List.map_take, HVS.out, hul, List.take_take, Nat.min_eq_left HJ.out.1])
  have EB := hid (show vs.map (·.2) = (qs.take vs.length).map (·.2) by rw [HVS.out, List.map_take, hvl])
  have VT := hid (V7.out.rds.take (m := us.length) L1.out (by omega))
  have QT := hid ((AL7.out.rds D7.out.a.fr).take (m := vs.length) L2.out (by omega))
  have XA := hid (show (((recsB ((qs.map (·.2)).take ja)).length : Nat) : Int) = (da.bytes.length : Int) by rw [HDA2.out])
  have XB := hid (show (((recsB ((qs.map (·.2)).take jb)).length : Nat) : Int) = (db.bytes.length : Int) by rw [HDB2.out])
  clear I F G Y' V' hvs hsep hgy D6 AL6 X6 U6 hul hvl
  go_wp2_with fail
  refine (sameL_yes _ _ us (vs.take us.length) _ U7.out.rds VT.out EA.out HLL.out.1).mono ?_
  rintro e w8 ⟨rfl, n8, rfl⟩
  have FN := (Fr.refl No w7).drewN n8
  have V8 := hid (V7.out.keep_no FN)
  have QT8 := hid (QT.out.too FN)
  have D8 := hid (D7.out.keep FN)
  have X8 := hid (Blk.keep X7.out FN (not_no _))
  have Y8 := hid (Blk.keep Y7.out FN (not_no _))
  clear FN V7 QT D7 X7 Y7 U7 VT AL7
  generalize w7.drewN n8 = w8 at V8 QT8 D8 X8 Y8 ⊢
  go_wp2_with fail
  refine (sameL_yes _ _ vs (qs.take vs.length) _ V8.out.rds QT8.out EB.out HLL.out.2).mono ?_
  rintro e w9 ⟨rfl, n9, rfl⟩
  have FN := (Fr.refl No w8).drewN n9
  have D9 := hid (D8.out.keep FN)
  have X9 := hid (Blk.keep X8.out FN (not_no _))
  have Y9 := hid (Blk.keep Y8.out FN (not_no _))
  clear FN V8 QT8 D8 X8 Y8
  generalize w8.drewN n9 = w9 at D9 X9 Y9 ⊢
  go_wp2_with fail
  refine (lbytes_c X9.out).mono ?_
  rintro e wx ⟨rfl, rfl⟩
  try dsimp only
  rw [XA.out]
  go_wp2_with fail
  refine (size_c D9.out.a.disk).mono ?_
  rintro e wx ⟨rfl, rfl⟩
  go_wp2_with fail
  refine (lbytes_c Y9.out).mono ?_
  rintro e wx ⟨rfl, rfl⟩
  try dsimp only
  rw [XB.out]
  go_wp2_with fail
  refine (size_c D9.out.b.disk).mono ?_
  rintro e wx ⟨rfl, rfl⟩
  go_wp2_with fail
  refine (awake_c _).mono ?_
  rintro e w10 ⟨rfl, B⟩
  have F10 := hid (D9.out.a.fr.fresh_no B)
  clear B
  go_wp2_with fail
  go_ret
  exact ⟨rfl, F10.out⟩
end Go.Proofs.Ytfbhcapcnkcfdaa
