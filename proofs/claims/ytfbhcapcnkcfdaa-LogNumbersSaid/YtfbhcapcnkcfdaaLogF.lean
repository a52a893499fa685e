import Derived.Test.YtfbhcapcnkcfdaaLogE
/-! What the operations of a log do; the chapter's examples come out. -/
namespace Go.Proofs.Ytfbhcapcnkcfdaa
open Go.RowKit
set_option linter.unusedVariables false
set_option linter.unusedSimpArgs false

theorem nf : ¬ (false = true) := by simp
section
variable (d : DSt) (X : List UInt8)
theorem appendD_ok (h1 : d.down = false) (h2 : ¬ d.most - d.bytes.length < X.length) (h3 : d.arm ≠ 0) : appendD d X = (⟨d.most, d.bytes ++ X, d.synced, max (d.arm - 1) (-1), false⟩, 0) := by
  unfold appendD operD
  rw [h1, if_neg nf, if_neg h2, if_neg (by simp), if_neg h3]
theorem appendD_zero (h1 : d.down = false) (h2 : ¬ d.most - d.bytes.length < X.length) (h3 : d.arm = 0) : appendD d X = (⟨d.most, d.bytes, d.synced, -1, true⟩, 15) := by
  unfold appendD operD
  rw [h1, if_neg nf, if_neg h2, if_neg (by simp), if_pos h3]
theorem appendD_full (h1 : d.down = false) (h2 : d.most - d.bytes.length < X.length) : appendD d X = (d, 5) := by
  unfold appendD operD
  rw [h1, if_neg nf, if_pos h2, if_pos (by simp)]
theorem appendD_down (h1 : d.down = true) : appendD d X = (d, 15) := by
  unfold appendD operD
  rw [h1, if_pos rfl]
theorem syncD_ok (h1 : d.down = false) (h3 : d.arm ≠ 0) : syncD d = (⟨d.most, d.bytes, d.bytes.length, max (d.arm - 1) (-1), false⟩, 0) := by
  unfold syncD operD
  rw [h1, if_neg nf, if_neg (by simp), if_neg h3]
theorem syncD_zero (h1 : d.down = false) (h3 : d.arm = 0) : syncD d = (⟨d.most, d.bytes, d.synced, -1, true⟩, 15) := by
  unfold syncD operD
  rw [h1, if_neg nf, if_neg (by simp), if_pos h3]
end
/-- Add, where there is room and the power lasts for both operations -/
theorem addL_ok (d : DSt) (l : LSt) (rec : List UInt8) (hr : Good rec) (ho : l.over = false) (h1 : d.down = false) (h2 : (d.bytes.length : Int) + (8 + rec.length) ≤ d.most) (h3 : d.arm ≠ 0) (h4 : d.arm ≠ 1) (h5 : -1 ≤ d.arm) :
    addL d l rec = (⟨d.most, d.bytes ++ recB rec, (d.bytes ++ recB rec).length, max (d.arm - 2) (-1), false⟩, ⟨l.n + 1, l.bytes + (recB rec).length, false⟩, 0) := by
  have hl := recB_length rec
  have ha := appendD_ok d (recB rec) h1 (by rw [hl]; omega) h3
  have hs := syncD_ok ⟨d.most, d.bytes ++ recB rec, d.synced, max (d.arm - 1) (-1), false⟩ rfl (show max (d.arm - 1) (-1) ≠ 0 by omega)
  unfold addL
  rw [if_neg (by have := hr.1; omega), if_neg (by have := hr.2; omega), ho, if_neg nf, ha, if_pos rfl, hs, if_pos rfl, show max (max (d.arm - 1) (-1) - 1) (-1) = max (d.arm - 2) (-1) by omega]
/-- the power fails ahead of the first one -/
theorem addL_zero (d : DSt) (l : LSt) (rec : List UInt8) (hr : Good rec) (ho : l.over = false) (h1 : d.down = false) (h2 : (d.bytes.length : Int) + (8 + rec.length) ≤ d.most) (h3 : d.arm = 0) :
    addL d l rec = (⟨d.most, d.bytes, d.synced, -1, true⟩, ⟨l.n, l.bytes, true⟩, 15) := by
  have hl := recB_length rec
  have ha := appendD_zero d (recB rec) h1 (by rw [hl]; omega) h3
  unfold addL
  rw [if_neg (by have := hr.1; omega), if_neg (by have := hr.2; omega), ho, if_neg nf, ha, if_neg (by simp)]
  rfl
/-- the power fails between the two -/
theorem addL_one (d : DSt) (l : LSt) (rec : List UInt8) (hr : Good rec) (ho : l.over = false) (h1 : d.down = false) (h2 : (d.bytes.length : Int) + (8 + rec.length) ≤ d.most) (h3 : d.arm = 1) :
    addL d l rec = (⟨d.most, d.bytes ++ recB rec, d.synced, -1, true⟩, ⟨l.n, l.bytes, true⟩, 15) := by
  have hl := recB_length rec
  have ha := appendD_ok d (recB rec) h1 (by rw [hl]; omega) (by omega)
  have hs := syncD_zero ⟨d.most, d.bytes ++ recB rec, d.synced, max (d.arm - 1) (-1), false⟩ rfl (show max (d.arm - 1) (-1) = 0 by omega)
  unfold addL
  rw [if_neg (by have := hr.1; omega), if_neg (by have := hr.2; omega), ho, if_neg nf, ha, if_pos rfl, hs, if_neg (by simp)]
  rfl
/-- there is no room -/
theorem addL_full (d : DSt) (l : LSt) (rec : List UInt8) (hr : Good rec) (ho : l.over = false) (h1 : d.down = false) (h2 : d.most < (d.bytes.length : Int) + (8 + rec.length)) : addL d l rec = (d, l, 5) := by
  have hl := recB_length rec
  have ha := appendD_full d (recB rec) h1 (by rw [hl]; omega)
  unfold addL
  rw [if_neg (by have := hr.1; omega), if_neg (by have := hr.2; omega), ho, if_neg nf, ha, if_neg (by simp)]
  obtain ⟨n, b, o⟩ := l
  subst ho
  rfl
theorem addL_over (d : DSt) (l : LSt) (rec : List UInt8) (hr : Good rec) (ho : l.over = true) : addL d l rec = (d, l, 15) := by
  unfold addL
  rw [if_neg (by have := hr.1; omega), if_neg (by have := hr.2; omega), if_pos ho]

theorem open_ok {w : World} {g : Nat} {v : Value} {d d2 : DSt} {rs : List (List UInt8)} (h : IsDisk w g v d) (hd : d.down = false) (hr : openD d = (d2, rs, 0)) :
    Calls Try.prog 13 #[.pointer (some ⟨g, 0, none⟩)] w (RetOpen w g v d2 rs) :=
  (open_up h hd _ hr).mono fun e w' hh => by
    rcases hh with ⟨_, h⟩ | ⟨h, _⟩
    · exact h
    · exact absurd rfl h

theorem RdLs.lit2 (w : World) (C : Array Value) (T T2 : TypeId) (fr : Nat × Nat) (n : Nat) (ys : List UInt8) (h : C.toList = bvs ys) (hn : n = ys.length) (g1 g2 : Nat) (h1 : g1 = w.heap.size) (h2 : g2 = w.heap.size + 1) :
    RdLs ((w.alloc (.cells C T fr)).alloc (.cells #[.slice (some ⟨g1, 0, none⟩) n n] T2)) (.slice (some ⟨g2, 0, none⟩) 1 1) [(.slice (some ⟨g1, 0, none⟩) n n, ys)] := by
  have hs : g2 = (w.alloc (.cells C T fr)).heap.size := by simp [h2]
  subst hs
  refine ⟨Rd.lit1 (w.alloc (.cells C T fr)) T2 #[.slice (some ⟨g1, 0, none⟩) n n] 1 rfl, ?_⟩
  intro p hp
  rw [List.mem_singleton.1 hp]
  exact (RdB.lit_ w T C n ys h hn g1 h1).alloc _

theorem good1 (b : UInt8) : Good [b] := ⟨by simp, by simp⟩

set_option maxRecDepth 100000 in
set_option maxHeartbeats 2000000 in
theorem awake_c (w : World) : Calls Try.prog 14 #[] w (RetT w) := by
  have kc := run_convert_const (P := Try.prog) 22 5 Try.underlying22 Try.underlying5
  have X1 := hid (show recsB [[97]] = recB [97] from recsB_one _)
  have X2 := hid (show (recB [97]).length = 9 by rw [recB_length]; rfl)
  obtain ⟨X, hX⟩ : ∃ X, recB [97] = X := ⟨_, rfl⟩
  have HX := hid hX
  clear hX
  have hxl9 : X.length = 9 := by rw [← HX.out]; exact X2.out
  have HA := hid (show addL (newD 100) ⟨0, 0, false⟩ [97] = (⟨100, X, 9, -1, false⟩, ⟨1, 9, false⟩, 0) by
    rw [addL_ok (newD 100) ⟨0, 0, false⟩ [97] (good1 97) rfl rfl (by simp [newD]) (by simp [newD]) (by simp [newD]) (by simp [newD]), HX.out]
    show ((⟨100, [] ++ X, ([] ++ X).length, max (-1 - 2) (-1), false⟩ : DSt), (⟨0 + 1, 0 + (X.length : Int), false⟩ : LSt), 0) = _
    rw [List.nil_append, hxl9]
    rfl)
  have HB := hid (show appendD ⟨100, X, 9, -1, false⟩ [120, 121, 122] = (⟨100, X ++ [120, 121, 122], 9, -1, false⟩, 0) by
    rw [appendD_ok _ _ rfl (by simp [hxl9]) (by simp)]
    rfl)
  have HC := hid (show openD ⟨100, X ++ [120, 121, 122], 9, -1, false⟩ = (⟨100, X, 9, -1, false⟩, [[97]], 0) by
    rw [openD_torn ⟨100, X ++ [120, 121, 122], 9, -1, false⟩ [[97]] [120, 121, 122] rfl (by rw [X1.out, HX.out]) (by intro r hr; rw [List.mem_singleton.1 hr]; exact good1 97) (by unfold nextL; rw [if_pos (by simp)]) (by simp) (by simp), X1.out, X2.out, HX.out]
    rfl)
  have HXL := hid hxl9
  clear hxl9
  go_enter Try.func14, Try.ntmps14
  go_wp2_with fail
  refine (new_c 100 (by omega) (by omega) _).mono ?_
  rintro e w1 ⟨g, v1, rfl, I, F, hgn, hvn⟩
  have S1 := hid (St.new I F hgn hvn)
  clear I F hgn hvn
  go_wp2_with fail
  refine (open_ok S1.out.disk rfl (openD_whole _ [] rfl rfl (by simp))).mono ?_
  intro e w2 hr
  obtain ⟨gl, vo, ps, v2, rfl, S', T', hps, F', G', hgl⟩ := SL.opened S1.out hr
  have S2 := hid S'
  have hp0 : ps = [] := by simpa using hps
  subst hp0
  obtain ⟨Ao, co, rfl, hco⟩ := T'.own.rds.1.slice_
  clear S' T' hps F' G' hr S1
  go_wp2_with fail
  refine (add_c (S2.out.st.disk.keep_no ((Fr.refl No _).alloc _)) (Blk.keep S2.out.log ((Fr.refl No _).alloc _) (not_no _)) _ [97] (RdB.lit_ _ _ _ _ _ rfl rfl _ (by first | rfl | simp)) (by simp) (by simp) (by simp) (by simp [recsB]) (⟨100, X, 9, -1, false⟩, ⟨1, 9, false⟩, 0) HA.out).mono ?_
  intro e w3 hr
  obtain ⟨v3, rfl, S', F', G'⟩ := (S2.out.keep ((Fr.refl No _).alloc _)).add hr
  have S3 := hid S'
  clear S' F' G' hr S2
  go_wp2_with fail
  refine (read_c S3.out.st.disk (X, 0) rfl).mono ?_
  rintro e w4 ⟨vb, rfl, O, F, G⟩
  replace O : OwnB 5 w4 vb X := O
  have B4 := hid (show Bys w4 g v3 vb X from ⟨O.rd, fun _ k hk hi => by rcases G k hk with h | h; exact absurd h (not_no _); have := S3.out.st.disk.its_lt hi; omega⟩)
  obtain ⟨Ab, cb, rfl, hcb⟩ := O.slice
  have S4 := hid (S3.out.keep F)
  clear O F G S3
  go_wp2_with fail
  refine (append_c (S4.out.st.disk.keep_no ((Fr.refl No _).alloc _)) _ [120, 121, 122] (RdB.lit_ _ _ _ _ _ rfl rfl _ (by first | rfl | simp)) (its_new S4.out.st.disk) (by simp) (⟨100, X ++ [120, 121, 122], 9, -1, false⟩, 0) HB.out).mono ?_
  rintro e w5 ⟨v5, rfl, I, F, G⟩
  have S5 := hid ((S4.out.keep ((Fr.refl No _).alloc _)).disk I F G)
  have B5 := hid ((B4.out.keep ((Fr.refl No _).alloc _)).disk F (fun _ h => .inl h) G)
  clear I F G S4 B4
  go_wp2_with fail
  refine (open_ok S5.out.st.disk rfl (d2 := ⟨100, X, 9, -1, false⟩) (rs := [[97]]) HC.out).mono ?_
  intro e w6 hr
  obtain ⟨gm, vm, ps, v6, rfl, M', T', hps, F', G', hgm⟩ := SL.opened S5.out.st hr
  have S6 := hid (S5.out.disk M'.st.disk F' G')
  have B6 := hid (B5.out.disk F' (fun _ h => .inl h) G')
  have M6 := hid M'
  have T6 := hid T'
  have hpl : ps.length = 1 := by have := congrArg List.length hps; simpa using this
  obtain ⟨p, rfl⟩ : ∃ p, ps = [p] := List.length_eq_one_iff.1 hpl
  have HPS := hid hps
  clear hpl
  obtain ⟨Am, cm, rfl, hcm⟩ := T'.own.rds.1.slice_
  clear M' T' hps F' G' hr S5 B5
  go_wp2_with fail
  refine (arm_c S6.out.st.disk 0 (by omega) ⟨100, X, 9, 0, false⟩ rfl).mono ?_
  rintro e w7 ⟨v7, rfl, I, F, G⟩
  have S7 := hid (S6.out.disk I F G)
  have M7 := hid (M6.out.disk I F G)
  have B7 := hid (B6.out.disk F (fun _ h => .inl h) G)
  have T7 := hid (T6.out.disk S6.out.st.disk F (fun _ h => .inl h) G)
  clear I F G S6 M6 B6 T6
  go_wp2_with fail
  refine (sync_c S7.out.st.disk (⟨100, X, 9, -1, true⟩, 15) (syncD_zero _ rfl rfl)).mono ?_
  rintro e w8 ⟨v8, rfl, I, F, G⟩
  have S8 := hid (S7.out.disk I F G)
  have M8 := hid (M7.out.disk I F G)
  have B8 := hid (B7.out.disk F (fun _ h => .inl h) G)
  have T8 := hid (T7.out.disk S7.out.st.disk F (fun _ h => .inl h) G)
  clear I F G S7 M7 B7 T7
  go_wp2_with fail
  refine (open_down S8.out.st.disk rfl).mono ?_
  rintro e w9 ⟨v9, rfl, I, F, G⟩
  have S9 := hid (S8.out.disk I F G)
  have M9 := hid (M8.out.disk I F G)
  have B9 := hid (B8.out.disk F (fun _ h => .inl h) G)
  have T9 := hid (T8.out.disk S8.out.st.disk F (fun _ h => .inl h) G)
  clear I F G S8 M8 B8 T8
  go_wp2_with fail
  refine (record_ref _ [97] _ (RdB.lit_ _ _ _ _ _ rfl rfl _ (by first | rfl | simp)) (by simp)).mono ?_
  rintro e w10 ⟨v10, rfl, O, F, G⟩
  rw [HX.out] at O
  have F10 := ((Fr.refl No w9).alloc _).fresh_no F
  have S10 := hid (S9.out.keep F10)
  have M10 := hid (M9.out.keep F10)
  have B10 := hid (B9.out.keep F10)
  have T10 := hid (T9.out.keep F10)
  have O10 := hid O
  clear O F G S9 M9 B9 T9 F10
  go_wp2_with fail
  refine (same_yes _ _ X _ B10.out.rd O10.out.rd).mono ?_
  rintro e wx ⟨rfl, rfl⟩
  go_wp2_with fail
  refine (llen_c S10.out.log).mono ?_
  rintro e wx ⟨rfl, rfl⟩
  go_wp2_with fail
  refine (lbytes_c S10.out.log).mono ?_
  rintro e wx ⟨rfl, rfl⟩
  go_wp2_with fail
  refine (llen_c M10.out.log).mono ?_
  rintro e wx ⟨rfl, rfl⟩
  go_wp2_with fail
  refine (sameL_yes _ _ [p] _ _ (T10.out.own.rds.too (((Fr.refl No _).alloc _).alloc _)) (RdLs.lit2 _ _ _ _ _ _ [97] rfl rfl _ _ rfl (by first | rfl | simp)) HPS.out (by simp)).mono ?_
  rintro e w11 ⟨rfl, n11, rfl⟩
  go_wp2_with fail
  refine (size_c (S10.out.keep ((((Fr.refl No _).alloc _).alloc _).drewN n11)).st.disk).mono ?_
  rintro e wx ⟨rfl, rfl⟩
  have hxl := HXL.out
  go_wp2_with fail
  go_ret
  exact ⟨rfl, (S10.out.keep ((((Fr.refl No _).alloc _).alloc _).drewN n11)).st.fr⟩
end Go.Proofs.Ytfbhcapcnkcfdaa
