import Derived.Test.YtfilmehekibmbaaDiskG
import Derived.Test.YtfilmehekibmbaaRowKit
/-! DiskJoin: bytes that are appended piece by piece are as bytes that are appended at once. -/
namespace Go.Proofs.Ytfilmehekibmbaa
open Go.RowKit
set_option linter.unusedVariables false
set_option linter.unusedSimpArgs false

theorem InB.keep {w w' : World} {v : Value} {ys : List UInt8} (h : InB w v ys) (hf : Fr No w w') : InB w' v ys := ⟨h.1.keep hf (fun k _ => not_no k), fun h0 k hk => Nat.lt_of_lt_of_le (h.2 h0 k hk) hf.size⟩
theorem RdL.keep {w w' : World} {v : Value} {ps : List (Value × List UInt8)} (h : RdL w v ps) (hf : Fr No w w') : RdL w' v ps := ⟨h.1.keep hf (fun k _ => not_no k), fun p hp => (h.2 p hp).keep hf⟩
theorem RdL.at_ {w : World} {A : Option Addr} {ps : List (Value × List UInt8)} {c k : Nat} (h : RdL w (.slice A ps.length c) ps) (hk : k < ps.length) :
    ∃ b off A' c' ys, A = some ⟨b, off, none⟩ ∧ ps[k]? = some (.slice A' ys.length c', ys) ∧ w.cell? ⟨b, off + k, none⟩ = some (.slice A' ys.length c') ∧ InB w (.slice A' ys.length c') ys := by
  obtain ⟨b, off, c', u, h1, h2, h3, h4⟩ := h.1.at_ hk
  injection h1 with h1
  have hz : ps[k]? = some (ps[k]'hk) := by simp [hk]
  rw [List.getElem?_map, hz] at h3
  injection h3 with h3
  subst h3
  have hb := h.2 _ (List.getElem_mem hk)
  obtain ⟨A', c'', hs, _⟩ := hb.1.slice
  refine ⟨b, off, A', c'', (ps[k]'hk).2, h1, ?_, ?_, ?_⟩
  · rw [← hs]; exact hz
  · rw [← hs]; exact h4
  · rw [← hs]; exact hb

theorem St2.keepS {w0 w w1 : World} {g g' : Nat} {v v' : Value} {d d' : DSt} {S : Nat → Prop} (h : St2 w0 w g v d g' v' d') (hf : Fr S w w1) (h1 : ∀ k, S k → ¬ Its g v k) (h2 : ∀ k, S k → ¬ Its g' v' k) (hs : ∀ k, S k → w0.heap.size ≤ k) : St2 w0 w1 g v d g' v' d' :=
  ⟨⟨h.a.disk.keep hf (fun e => h1 _ e (.inl rfl)) (fun k hk e => h1 _ e (.inr hk)), h.a.fr.fresh hf hs, h.a.gnew, h.a.vnew⟩,
   ⟨h.b.disk.keep hf (fun e => h2 _ e (.inl rfl)) (fun k hk e => h2 _ e (.inr hk)), h.b.fr.fresh hf hs, h.b.gnew, h.b.vnew⟩, h.ne, h.sep⟩
theorem append_ok (most : Int) (L ys : List UInt8) (n : Nat) (h : (L.length : Int) + ys.length ≤ most) : appendD ⟨most, L, n, -1, false⟩ ys = (⟨most, L ++ ys, n, -1, false⟩, 0) := by
  unfold appendD operD
  simp only
  rw [if_neg (by simp), if_neg (show ¬ most - (L.length : Int) < ys.length by omega)]
  rfl
theorem cut_ok (most : Int) (L : List UInt8) (n k : Nat) (h : k ≤ L.length) : cutD ⟨most, L, n, -1, false⟩ k = (⟨most, L.take k, k, -1, false⟩, 0) := by
  unfold cutD operD
  simp only
  rw [if_neg (by simp), if_neg (show ¬ ((k : Int) < 0 ∨ (L.length : Int) < k) by omega)]
  rfl
theorem crash_all (most : Int) (L : List UInt8) (n : Int) (a : Int) (dn : Bool) : crashD ⟨most, L, L.length, a, dn⟩ n = ⟨most, L, L.length, -1, false⟩ := by
  have : left ⟨most, L, L.length, a, dn⟩ n = L.length := by unfold left; simp only; omega
  unfold crashD
  rw [this]
  simp

set_option maxRecDepth 100000 in
set_option maxHeartbeats 2000000 in
theorem diskJoin_c (y : Value) (ps : List (Value × List UInt8)) (cut : Nat) (hcut : cut ≤ 65535) (w : World) (h1 : RdL w y ps) :
    Calls Try.prog 10 #[y, .int .u16 cut] w (RetT w) := by
  obtain ⟨A1, c1, rfl, q1⟩ := h1.1
  replace q1 := q1.1
  have H1 := hid h1
  clear h1
  go_enter Try.func10, Try.ntmps10
  go_wp2_with fail
  refine (new_c 2000 (by omega) (by omega) _).mono ?_
  rintro e w1 ⟨g, v1, rfl, I, F, hgn, hvn⟩
  have S1 := hid (St.new I F hgn hvn)
  have HV1 := hid hvn
  clear I F hgn hvn
  go_wp2_with fail
  refine (new_c 2000 (by omega) (by omega) _).mono ?_
  rintro e w2 ⟨g', v2, rfl, I, F, hgn, hvn⟩
  have S2 := hid (show St2 w w2 g v1 (newD 2000) g' v2 (newD 2000) from
    ⟨S1.out.keep F, St.new I (S1.out.fr.fresh_no F) (Nat.le_trans S1.out.fr.size hgn) hvn, by have := S1.out.disk.lt; omega, fun k hk _ => HV1.out k hk⟩)
  clear I F hgn hvn S1 HV1
  go_wp2_with fail
  go_loopg [9, 10] 20 (fun q v9 v10 w' => ∃ (i : Nat) (v : Value) (L : List UInt8), v10 = .int .i64 i ∧ i ≤ 20 ∧ q = 20 - i ∧ Hid (L.length ≤ 50 * i) ∧ Hid (St2 w w' g v ⟨2000, L, 0, -1, false⟩ g' v2 (newD 2000)) ∧
    Hid (OwnB 5 w' v9 L) ∧ Hid (∀ k, Of v9 k → w.heap.size ≤ k) ∧ Hid (∀ k, Of v9 k → ¬ Its g v k) ∧ Hid (∀ k, Of v9 k → ¬ Its g' v2 k))
  case atStart => exact ⟨0, v1, [], rfl, by omega, rfl, by simp [Hid], S2, OwnB.nil _ _, fun k hk => absurd hk Of_none, fun k hk => absurd hk Of_none, fun k hk => absurd hk Of_none⟩
  case round =>
    clear S2
    obtain ⟨i, v, L, rfl, hi, hq, HL, HS, HO, HG, HD1, HD2⟩ := hrel
    have HQ := hid hq
    clear hq
    by_cases d1 : i < ps.length ∧ i < 20
    · obtain ⟨d1, d2⟩ := d1
      obtain ⟨b, off, As, cs, ys, rfl, hz, hc, hin⟩ := (H1.out.keep HS.out.a.fr).at_ d1
      have HZ := hid hz
      have HIN := hid hin
      clear hz hin
      have hold := (H1.out.2 _ (List.mem_of_getElem? HZ.out)).2
      have i20 : (i : Int) < 20 := by omega
      have HOLD := hid hold
      clear hold
      by_cases d3 : 50 < ys.length
      · go_wp2_with fail
        go_roundg (20 - (i + 1))
        case measure => have := HQ.out; omega
        case rel => exact ⟨i + 1, v, L, by go_num, by omega, rfl, by have := HL.out; unfold Hid; omega, HS, HO, HG, HD1, HD2⟩
      · have HYG := hid (show 0 < ys.length → ∀ k, Of (.slice As ys.length cs) k → ¬ Its g v k from fun h0 k hk hi => by have h1 := HOLD.out h0 k hk; have h2 := HS.out.a.its hi; omega)
        have HYO := hid (show 0 < ys.length → ∀ k, Of (.slice As ys.length cs) k → ¬ Of u9 k from fun h0 k hk hi => by have h1 := HOLD.out h0 k hk; have h2 := HG.out k hi; omega)
        have HAP := hid (append_ok 2000 L ys 0 (by have := HL.out; omega))
        go_wp2_with fail
        refine (append_c HS.out.a.disk _ ys HIN.out.1 HYG.out (by omega) _ HAP.out).mono ?_
        rintro e w3 ⟨v3, rfl, I, F, G⟩
        have S3 := hid (HS.out.toA I F G)
        have O3 := hid (HO.out.keep F (fun k hk => HD1.out k hk))
        have Y3 := hid (HIN.out.1.keep_ F HYG.out)
        have D3 := hid (show ∀ k, Of u9 k → ¬ Its g v3 k from fun k hk hi => by
          rcases hi with e | h
          · exact HD1.out k hk (.inl e)
          · rcases G k h with h | h
            · exact HD1.out k hk (.inr h)
            · have := HO.out.lt k hk; omega)
        clear I F G
        have hc3 : w3.cell? ⟨b, off + i, none⟩ = some (.slice As ys.length cs) := by
          obtain ⟨b2, off2, A2', c2', ys2, h1, h2, h3, h4⟩ := (H1.out.keep S3.out.a.fr).at_ d1
          injection h1 with h1
          injection h1 with e1 e2
          rw [HZ.out] at h2
          injection h2 with h2
          injection h2 with h2 h2'
          rw [e1, e2, h3]
          exact congrArg some h2.symm
        go_wp2_with (at_builtin; refine wpl_appB _ rfl (.tmp 51) (.tmp 55) _ rfl 5 Try.underlying26 infoU8 _ L rfl O3.out _ ys rfl Y3.out (by have := HL.out; omega) ?_; intro v4 w4 O4 F4 G4)
        go_roundg (20 - (i + 1))
        case measure => have := HQ.out; omega
        case rel =>
          refine ⟨i + 1, v3, L ++ ys, by go_num, by omega, rfl, by have := HL.out; unfold Hid; simp; omega, S3.out.keepS F4.out D3.out HD2.out HG.out, O4, ?_, ?_, ?_⟩
          · intro k hk
            rcases G4.out k hk with h | h
            · exact HG.out k h
            · have := S3.out.a.fr.size; omega
          · intro k hk hi
            rcases G4.out k hk with h | h
            · exact D3.out k h hi
            · have := S3.out.a.disk.its_lt hi; omega
          · intro k hk hi
            rcases G4.out k hk with h | h
            · exact HD2.out k h hi
            · have := S3.out.b.disk.its_lt hi; omega
    · have hend : i = 20 ∧ i < ps.length ∨ ¬ i < ps.length := by omega
      have hL1 : L.length ≤ 1000 := by have := HL.out; omega
      obtain ⟨k, hk⟩ : ∃ k : Nat, (cut : Int) % ((L.length : Int) + 1) = k := ⟨cut % (L.length + 1), by simp⟩
      have hkl : k ≤ L.length := by
        have h1 := Int.emod_lt_of_pos (cut : Int) (show (0 : Int) < (L.length : Int) + 1 by omega)
        omega
      obtain ⟨A9, c9, rfl, hc9⟩ := HO.out.slice
      have HK := hid hk
      clear hk d1
      rcases hend with ⟨he1, he2⟩ | he1
      all_goals
        go_wp2_with fail
        refine (append_c HS.out.b.disk _ L HO.out.rd (fun _ k hk => HD2.out k hk) (by omega) (⟨2000, L, 0, -1, false⟩, 0) (append_ok 2000 [] L 0 (by simp; omega))).mono ?_
        rintro e w3 ⟨v3, rfl, I, F, G⟩
        have S3 := hid (HS.out.swap.toA I F G).swap
        have O3 := hid (HO.out.keep F (fun k hk => HD2.out k hk))
        clear I F G
        go_wp2_with fail
        refine (alike_c S3.out.a.disk S3.out.b.disk rfl rfl rfl).mono ?_
        rintro e w4 ⟨rfl, B⟩
        have S4 := hid (S3.out.keep B)
        have O4 := hid (O3.out.keep B (fun k _ => not_no k))
        clear B
        rw [HK.out]
        go_wp2_with fail
        refine (cut_c S4.out.a.disk _ _ (cut_ok 2000 L 0 k hkl)).mono ?_
        rintro e w5 ⟨v5, rfl, I, F, G⟩
        have S5 := hid (S4.out.toA I F G)
        have O5 := hid (O4.out.keep F (fun k hk => HD1.out k hk))
        have D5 := hid (show ∀ k, Of (.slice A9 L.length c9) k → ¬ Its g v5 k from fun k hk hi => by
          rcases hi with e | h
          · exact HD1.out k hk (.inl e)
          · rcases G k h with h | h
            · exact HD1.out k hk (.inr h)
            · have := O4.out.lt k hk; omega)
        have hlk : (L.take k).length = k := by simp; omega
        have HLK := hid hlk
        clear I F G hlk
        go_wp2_with fail
        refine (crash_c S5.out.a.disk _ ⟨2000, L.take k, k, -1, false⟩ (by have h := crash_all 2000 (L.take k) 1073741824 (-1) false; rw [HLK.out] at h; exact h)).mono ?_
        rintro e w6 ⟨v6, rfl, I, F, G⟩
        have S6 := hid (S5.out.toA I F G)
        have O6 := hid (O5.out.keep F (fun k hk => D5.out k hk))
        clear I F G
        go_wp2_with fail
        refine (read_c S6.out.a.disk (L.take k, 0) rfl).mono ?_
        rintro e w7 ⟨r7, rfl, A, B, C⟩
        have R7 := hid A
        have S7 := hid (S6.out.keep B)
        have O7 := hid (O6.out.keep B (fun k _ => not_no k))
        have T7 := hid (O7.out.rd.take (m := k) (c' := c9) hkl (by omega))
        clear A B C
        have k0 : (0 : Int) ≤ k := by omega
        have k1 : (k : Int) ≤ c9 := by omega
        go_wp2_with fail
        refine (same_yes _ _ (L.take k) _ R7.out.rd T7.out).mono ?_
        rintro e wx ⟨rfl, rfl⟩
        go_wp2_with fail
        refine (awake_c _).mono ?_
        rintro e w8 ⟨rfl, B⟩
        have F8 := hid (S7.out.a.fr.fresh_no B)
        clear B
        go_wp2_with fail
        go_ret
        exact ⟨rfl, F8.out⟩
end Go.Proofs.Ytfilmehekibmbaa
