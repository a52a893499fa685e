import Derived.Test.YtdlabicepppfaaaBytesG
import Derived.Test.YtdlabicepppfaaaRowKit
/-! BytesList: numbers and blobs put one behind the other are got in order, and nothing is left. -/
namespace Go.Proofs.Ytdlabicepppfaaa
open Go.RowKit
set_option linter.unusedVariables false

theorem RdI.keep {S : Nat → Prop} {w w' : World} {v : Value} {zs : List Int} (h : RdI w v zs) (hf : Fr S w w') (hS : ∀ k, Of v k → ¬ S k) : RdI w' v zs := ⟨h.1.keep hf hS, h.2⟩
theorem RdI.at_ {w : World} {A : Option Addr} {zs : List Int} {c k : Nat} (h : RdI w (.slice A zs.length c) zs) (hk : k < zs.length) :
    ∃ b off z, A = some ⟨b, off, none⟩ ∧ zs[k]? = some z ∧ w.cell? ⟨b, off + k, none⟩ = some (.int .i64 z) ∧ -9223372036854775808 ≤ z ∧ z ≤ 9223372036854775807 := by
  obtain ⟨b, off, c', u, h1, h2, h3, h4⟩ := h.1.at_ hk
  injection h1 with h1
  have hz : zs[k]? = some (zs[k]'hk) := by simp [hk]
  rw [List.getElem?_map, hz] at h3
  injection h3 with h3
  subst h3
  have hb := h.2 _ (List.getElem_mem hk)
  exact ⟨b, off, _, h1, hz, h4, hb.1, hb.2⟩
theorem InB.keep {w w' : World} {v : Value} {ys : List UInt8} (h : InB w v ys) (hf : Fr No w w') : InB w' v ys := ⟨h.1.keep hf (fun k _ => not_no k), fun h0 k hk => Nat.lt_of_lt_of_le (h.2 h0 k hk) hf.size⟩
theorem RdL.keep {w w' : World} {v : Value} {ps : List (Value × List UInt8)} (h : RdL w v ps) (hf : Fr No w w') : RdL w' v ps := ⟨h.1.keep hf (fun k _ => not_no k), fun p hp => (h.2 p hp).keep hf⟩
theorem RdL.at_ {w : World} {A : Option Addr} {ps : List (Value × List UInt8)} {c k : Nat} (h : RdL w (.slice A ps.length c) ps) (hk : k < ps.length) :
    ∃ b off A' c' ys, A = some ⟨b, off, none⟩ ∧ ps[k]? = some (.slice A' ys.length c', ys) ∧ w.cell? ⟨b, off + k, none⟩ = some (.slice A' ys.length c') ∧ InB w (.slice A' ys.length c') ys := by
  obtain ⟨b, off, c', u, h1, h2, h3, h4⟩ := h.1.at_ hk
  injection h1 with h1
  have hz : ps[k]? = some (ps[k]'hk) := by simp [hk]
  rw [List.getElem?_map, hz] at h3
  injection h3 with h3
  subst h3
  have hb := h.2 _ (List.getElem_mem hk)
  obtain ⟨A', c'', hs, _⟩ := hb.1.slice
  refine ⟨b, off, A', c'', (ps[k]'hk).2, h1, ?_, ?_, ?_⟩
  · rw [← hs]; exact hz
  · rw [← hs]; exact h4
  · rw [← hs]; exact hb

/-- the numbers, one behind the other -/
def vi (l : List Int) : List UInt8 := l.flatMap (fun m => varint (zz m))
/-- the blobs, one behind the other -/
def vb (ps : List (Value × List UInt8)) : List UInt8 := ps.flatMap (fun p => varint p.2.length ++ p.2)
theorem vi_succ {l : List Int} {i : Nat} {z : Int} (h : l[i]? = some z) : vi (l.take (i + 1)) = vi (l.take i) ++ varint (zz z) := by
  rw [List.take_add_one, h]; simp [vi]
theorem vb_succ {ps : List (Value × List UInt8)} {i : Nat} {v : Value} {ys : List UInt8} (h : ps[i]? = some (v, ys)) : vb (ps.take (i + 1)) = vb (ps.take i) ++ varint ys.length ++ ys := by
  rw [List.take_add_one, h]; simp [vb]
theorem vi_split (l : List Int) (i : Nat) : vi l = vi (l.take i) ++ vi (l.drop i) := by
  have h : vi (l.take i ++ l.drop i) = vi (l.take i) ++ vi (l.drop i) := by unfold vi; rw [List.flatMap_append]
  rwa [List.take_append_drop] at h
theorem vb_split (l : List (Value × List UInt8)) (i : Nat) : vb l = vb (l.take i) ++ vb (l.drop i) := by
  have h : vb (l.take i ++ l.drop i) = vb (l.take i) ++ vb (l.drop i) := by unfold vb; rw [List.flatMap_append]
  rwa [List.take_append_drop] at h
theorem vi_at {l : List Int} {i : Nat} {z : Int} (h : l[i]? = some z) : ∃ r, vi l = vi (l.take i) ++ (varint (zz z) ++ r) :=
  ⟨vi (l.drop (i + 1)), by rw [vi_split l (i + 1), vi_succ h, List.append_assoc]⟩
theorem vb_at {l : List (Value × List UInt8)} {i : Nat} {v : Value} {ys : List UInt8} (h : l[i]? = some (v, ys)) : ∃ r, vb l = vb (l.take i) ++ (varint ys.length ++ (ys ++ r)) :=
  ⟨vb (l.drop (i + 1)), by rw [vb_split l (i + 1), vb_succ h]; simp⟩
theorem vi_len {l : List Int} (h : ∀ z ∈ l, -9223372036854775808 ≤ z ∧ z ≤ 9223372036854775807) : (vi l).length ≤ 10 * l.length := by
  induction l with
  | nil => simp [vi]
  | cons z l ih =>
    have := varint_len64 (zz_lt (h z (by simp)).1 (h z (by simp)).2)
    have ih := ih (fun z hz => h z (by simp [hz]))
    simp only [vi, List.flatMap_cons, List.length_append, List.length_cons] at ih ⊢
    omega
theorem vb_len {l : List (Value × List UInt8)} (h : ∀ p ∈ l, p.2.length ≤ 50) : (vb l).length ≤ 60 * l.length := by
  induction l with
  | nil => simp [vb]
  | cons z l ih =>
    have h1 := h z (by simp)
    have := varint_len64 (n := z.2.length) (by omega)
    have ih := ih (fun z hz => h z (by simp [hz]))
    simp only [vb, List.flatMap_cons, List.length_append, List.length_cons] at ih ⊢
    omega

set_option maxRecDepth 100000 in
set_option maxHeartbeats 1000000 in
theorem bytesList_long (y0 y1 y2 : Value) (zs : List Int) (ps : List (Value × List UInt8)) (xs : List UInt8) (w : World) (h0 : RdI w y0 zs) (h1 : RdL w y1 ps) (h2 : InB w y2 xs) (hl : 60 < zs.length ∨ 20 < ps.length ∨ 200 < xs.length) :
    Calls Try.prog 6 #[y0, y1, y2] w (RetT w) := by
  obtain ⟨A0, c0, rfl, q0⟩ := h0.1
  obtain ⟨A1, c1, rfl, q1⟩ := h1.1
  obtain ⟨A2, c2, rfl, q2⟩ := h2.1.slice
  replace q0 := q0.1
  replace q1 := q1.1
  clear h0 h1 h2
  have e0 : (60 < zs.length) ∨ (zs.length ≤ 60 ∧ 20 < ps.length) ∨ (zs.length ≤ 60 ∧ ps.length ≤ 20 ∧ 200 < xs.length) := by omega
  clear hl
  rcases e0 with e0 | ⟨e0, e1⟩ | ⟨e0, e1, e2⟩
  all_goals
    go_enter Try.func6, Try.ntmps6
    go_wp2_with fail
    refine (awake_c _).mono ?_
    rintro e w5 ⟨rfl, B⟩
    have F5 := hid ((Fr.refl No w).fresh_no B)
    clear B
    go_wp2_with fail
    go_ret
    exact ⟨rfl, F5.out⟩

set_option maxRecDepth 100000 in
set_option maxHeartbeats 2000000 in
theorem bytesList_c (y0 y1 y2 : Value) (zs : List Int) (ps : List (Value × List UInt8)) (xs : List UInt8) (w : World) (h0 : RdI w y0 zs) (h1 : RdL w y1 ps) (h2 : InB w y2 xs) (hl0 : zs.length ≤ 60) (hl1 : ps.length ≤ 20) (hl2 : xs.length ≤ 200) :
    Calls Try.prog 6 #[y0, y1, y2] w (RetT w) := by
  obtain ⟨A0, c0, rfl, q0⟩ := h0.1
  obtain ⟨A1, c1, rfl, q1⟩ := h1.1
  obtain ⟨A2, c2, rfl, q2⟩ := h2.1.slice
  replace q0 := q0.1
  replace q1 := q1.1
  have e0 : decide (60 < zs.length) = false := by simp; omega
  have e1 : decide (20 < ps.length) = false := by simp; omega
  have e2 : decide (200 < xs.length) = false := by simp; omega
  have H0 := hid h0
  have H1 := hid h1
  have H2 := hid h2
  have HL := hid (show xs.length ≤ 140737488355328 by omega)
  have HVI := hid (show ∀ i, (vi (zs.take i)).length ≤ 600 from fun i => by
    have h := vi_len (l := zs.take i) (fun z hz => h0.2 z (List.mem_of_mem_take hz))
    have : (zs.take i).length ≤ 60 := by simp; omega
    omega)
  have HVIA := hid (show (vi zs).length ≤ 600 from by
    have h := vi_len (l := zs) h0.2
    omega)
  clear h0 h1 h2
  go_enter Try.func6, Try.ntmps6
  go_wp2_with fail
  refine (copy_c _ xs _ H2.out.1 HL.out).mono ?_
  rintro e w1 ⟨v1, rfl, A', B', C'⟩
  have O1 := hid A'
  have F1 := hid B'
  have G1 := hid (show ∀ k, Of v1 k → w.heap.size ≤ k from fun k hk => (C' k hk).resolve_left (not_no k))
  clear A' B' C'
  go_wp2_with fail
  go_loopg [7, 8] zs.length (fun q v7 v8 w' => ∃ i : Nat, v8 = .int .i64 i ∧ i ≤ zs.length ∧ q = zs.length - i ∧ Hid (OwnB 5 w' v7 (xs ++ vi (zs.take i))) ∧ Hid (Fr No w w') ∧ Hid (∀ k, Of v7 k → w.heap.size ≤ k))
  case atStart => exact ⟨0, rfl, by omega, rfl, by simpa [Hid, vi] using O1.out, F1, G1⟩
  case round =>
    obtain ⟨i, rfl, hi, hq, HO, HF, HG⟩ := hrel
    have HQ := hid hq
    clear hq O1 G1 F1
    by_cases d1 : i < zs.length
    · obtain ⟨b, off, z, rfl, hz, hc, hz1, hz2⟩ := (H0.out.keep HF.out (fun k _ => not_no k)).at_ d1
      have HZ := hid hz
      have HZ1 := hid hz1
      have HZ2 := hid hz2
      have HB := hid (show (xs ++ vi (zs.take i)).length ≤ 140737488300000 by have := HVI.out i; simp; omega)
      clear hz hz1 hz2
      go_wp2_with fail
      refine (int_c _ _ z HZ1.out HZ2.out _ HO.out HB.out).mono ?_
      rintro e w2 ⟨v2, rfl, A', B', C'⟩
      rw [List.append_assoc, ← vi_succ HZ.out] at A'
      have O2 := hid A'
      have F2 := hid (HF.out.fresh B' (fun k hk => HG.out k hk))
      have G2 := hid (show ∀ k, Of v2 k → w.heap.size ≤ k from fun k hk => by
        rcases C' k hk with h | h
        · exact HG.out k h
        · have := HF.out.size; omega)
      clear A' B' C'
      go_wp2_with fail
      go_roundg (zs.length - (i + 1))
      case measure => have := HQ.out; omega
      case rel => exact ⟨i + 1, by go_num, by omega, rfl, O2, F2, G2⟩
    · have hie : i = zs.length := by omega
      subst hie
      rw [List.take_length] at HO
      clear HQ hi
      go_wp2_with fail
      go_loopg [7, 9] ps.length (fun q v7 v9 w' => ∃ i : Nat, v9 = .int .i64 i ∧ i ≤ ps.length ∧ q = ps.length - i ∧ Hid (OwnB 5 w' v7 (xs ++ vi zs ++ vb (ps.take i))) ∧ Hid (Fr No w w') ∧ Hid (∀ k, Of v7 k → w.heap.size ≤ k) ∧ Hid (∀ p ∈ ps.take i, p.2.length ≤ 50))
      case atStart => exact ⟨0, rfl, by omega, rfl, by simpa [Hid, vb] using HO.out, HF, HG, by simp [Hid]⟩
      case round =>
        clear HO HF HG
        obtain ⟨i, rfl, hi, hq, HO, HF, HG, HS⟩ := hrel
        have HQ := hid hq
        clear hq
        have hvb : (vb (ps.take i)).length ≤ 1200 := by
          have h := vb_len HS.out
          have : (ps.take i).length ≤ 20 := by simp; omega
          omega
        have HVB := hid hvb
        clear hvb
        by_cases d2 : i < ps.length
        · obtain ⟨b, off, As, cs, ys, rfl, hz, hc, hin⟩ := (H1.out.keep HF.out).at_ d2
          have HZ := hid hz
          have HIN := hid hin
          clear hz hin
          by_cases d3 : 50 < ys.length
          · go_wp2_with fail
            refine (awake_c _).mono ?_
            rintro e w5 ⟨rfl, B⟩
            have F5 := hid (HF.out.fresh_no B)
            clear B
            go_wp2_with fail
            go_ret
            exact ⟨rfl, F5.out⟩
          · have HB := hid (show (xs ++ vi zs ++ vb (ps.take i)).length + ys.length ≤ 140737488300000 by have := HVIA.out; have := HVB.out; simp; omega)
            go_wp2_with fail
            refine (blob_c _ _ _ ys _ HO.out HIN.out.1 ?_ HB.out).mono ?_
            · intro h0 k h1 h2
              have h3 := HG.out k h2
              have h4 := (H1.out.2 _ (List.mem_of_getElem? HZ.out)).2 h0 k h1
              omega
            rintro e w2 ⟨v2, rfl, A', B', C'⟩
            rw [List.append_assoc, List.append_assoc, ← List.append_assoc (vb _), ← vb_succ HZ.out] at A'
            have O2 := hid A'
            have F2 := hid (HF.out.fresh B' (fun k hk => HG.out k hk))
            have G2 := hid (show ∀ k, Of v2 k → w.heap.size ≤ k from fun k hk => by
              rcases C' k hk with h | h
              · exact HG.out k h
              · have := HF.out.size; omega)
            have HS2 := hid (show ∀ p ∈ ps.take (i + 1), p.2.length ≤ 50 from by
              rw [List.take_add_one, HZ.out]
              intro p hp
              rcases List.mem_append.1 hp with h | h
              · exact HS.out p h
              · simp at h; subst h; simp; omega)
            clear A' B' C'
            go_wp2_with fail
            go_roundg (ps.length - (i + 1))
            case measure => have := HQ.out; omega
            case rel => exact ⟨i + 1, by go_num, by omega, rfl, O2, F2, G2, HS2⟩
        · have hie : i = ps.length := by omega
          subst hie
          rw [List.take_length] at HO HS HVB
          clear HQ hi
          obtain ⟨A7, c7, rfl, hc7⟩ := HO.out.slice
          obtain ⟨BB, hBB⟩ : ∃ BB, xs ++ vi zs ++ vb ps = BB := ⟨_, rfl⟩
          have HLB := hid (show BB.length = xs.length + (vi zs).length + (vb ps).length by rw [← hBB]; simp [Nat.add_assoc])
          rw [hBB] at HO hc7 ⊢
          have HBB := hid hBB
          have HLL := hid (show BB.length ≤ 140737488355328 by have := HLB.out; have := HVB.out; have := HVIA.out; omega)
          clear hBB
          go_wp2_with fail
          go_loopg [10, 11] zs.length (fun q v10 v11 w' => ∃ i at_ : Nat, v10 = .int .i64 at_ ∧ v11 = .int .i64 i ∧ i ≤ zs.length ∧ q = zs.length - i ∧ Hid (at_ = xs.length + (vi (zs.take i)).length) ∧ Hid (OwnB 5 w' (.slice A7 BB.length c7) BB) ∧ Hid (Fr No w w'))
          case atStart => exact ⟨0, xs.length, rfl, rfl, by omega, rfl, by simp [Hid, vi], HO, HF⟩
          case round =>
            clear HO HF
            obtain ⟨i, at_, rfl, rfl, hi, hq, HAT, HO, HF⟩ := hrel
            have HQ := hid hq
            clear hq
            by_cases d1 : i < zs.length
            · obtain ⟨b, off, z, rfl, hz, hc, hz1, hz2⟩ := (H0.out.keep HF.out (fun k _ => not_no k)).at_ d1
              have HZ := hid hz
              have HG1 := hid (show getU BB ((at_ : Nat) : Int) = (zz z, at_ + (varint (zz z)).length, 0) by
                obtain ⟨r, hr⟩ := vi_at hz
                have h := getU_at (xs ++ vi (zs.take i)) (r ++ vb ps) (zz z) (zz_lt hz1 hz2)
                rw [← HBB.out, hr, HAT.out]
                simpa [Nat.add_assoc] using h)
              have HZZ := hid (unzz_zz z)
              obtain ⟨l1, hl1⟩ : ∃ l, (varint (zz z)).length = l := ⟨_, rfl⟩
              rw [hl1] at HG1
              have HL1 := hid hl1
              clear hz hz1 hz2 hl1
              go_wp2_with fail
              refine (getInt_c _ BB _ _ HO.out.rd HLL.out _ HG1.out).mono ?_
              rintro e wx ⟨he, rfl⟩
              simp only [HZZ.out] at he
              subst he
              go_wp2_with fail
              go_roundg (zs.length - (i + 1))
              case measure => have := HQ.out; omega
              case rel => exact ⟨i + 1, at_ + l1, by go_num, by go_num, by omega, rfl, by unfold Hid; rw [vi_succ HZ.out, List.length_append, HL1.out, HAT.out]; omega, HO, HF⟩
            · have hie : i = zs.length := by omega
              subst hie
              rw [List.take_length] at HAT
              clear HQ hi
              go_wp2_with fail
              go_loopg [10, 15] ps.length (fun q v10 v15 w' => ∃ i at_ : Nat, v10 = .int .i64 at_ ∧ v15 = .int .i64 i ∧ i ≤ ps.length ∧ q = ps.length - i ∧ Hid (at_ = xs.length + (vi zs).length + (vb (ps.take i)).length) ∧ Hid (OwnB 5 w' (.slice A7 BB.length c7) BB) ∧ Hid (Fr No w w'))
              case atStart => exact ⟨0, at_, rfl, rfl, by omega, rfl, by simpa [Hid, vb] using HAT.out, HO, HF⟩
              case round =>
                clear HO HF HAT
                obtain ⟨i, at_, rfl, rfl, hi, hq, HAT, HO, HF⟩ := hrel
                have HQ := hid hq
                clear hq
                by_cases d2 : i < ps.length
                · obtain ⟨b, off, As, cs, ys, rfl, hz, hc, hin⟩ := (H1.out.keep HF.out).at_ d2
                  have HZ := hid hz
                  have h50 : ys.length ≤ 50 := HS.out _ (List.mem_of_getElem? hz)
                  have HG1 := hid (show getU BB ((at_ : Nat) : Int) = (ys.length, at_ + (varint ys.length).length, 0) by
                    obtain ⟨r, hr⟩ := vb_at hz
                    have h := getU_at (xs ++ vi zs ++ vb (ps.take i)) (ys ++ r) ys.length (by omega)
                    rw [← HBB.out, hr, HAT.out]
                    simpa [Nat.add_assoc] using h)
                  obtain ⟨l1, hl1⟩ : ∃ l, (varint ys.length).length = l := ⟨_, rfl⟩
                  rw [hl1] at HG1
                  have HL1 := hid hl1
                  have HGB := hid (show (BB.drop (at_ + l1)).take ys.length = ys by
                    obtain ⟨r, hr⟩ := vb_at hz
                    rw [← HBB.out, hr, show xs ++ vi zs ++ (vb (ps.take i) ++ (varint ys.length ++ (ys ++ r))) = (xs ++ vi zs ++ vb (ps.take i) ++ varint ys.length) ++ (ys ++ r) by simp,
                      show at_ + l1 = (xs ++ vi zs ++ vb (ps.take i) ++ varint ys.length).length by rw [HAT.out, ← hl1]; simp [Nat.add_assoc], List.drop_left]
                    simp)
                  have HGL := hid (show at_ + l1 + ys.length ≤ BB.length by
                    obtain ⟨r, hr⟩ := vb_at hz
                    rw [HLB.out, hr, HAT.out, ← hl1]; simp; omega)
                  have HIN := hid hin
                  clear hz hl1 hin
                  go_wp2_with fail
                  refine (getBlob_ok _ BB _ _ _ HO.out.rd HLL.out _ _ HG1.out (by omega) (by omega) (by omega) HGL.out).mono ?_
                  rintro e w4 ⟨v4, rfl, A', B', C'⟩
                  rw [HGB.out] at A'
                  have O4 := hid A'
                  have F4 := hid (HF.out.fresh_no B')
                  have HO4 := hid (HO.out.keep B' (fun k _ => not_no k))
                  have HI4 := hid (HIN.out.keep B')
                  clear A' B' C'
                  have hc4 : w4.cell? ⟨b, off + i, none⟩ = some (.slice As ys.length cs) := by
                    obtain ⟨b2, off2, A2', c2', ys2, h1, h2, h3, h4⟩ := (H1.out.keep F4.out).at_ d2
                    injection h1 with h1
                    injection h1 with e1 e2
                    rw [HZ.out] at h2
                    injection h2 with h2
                    injection h2 with h2 h2'
                    rw [e1, e2, h3]
                    exact congrArg some h2.symm
                  go_wp2_with fail
                  refine (same_yes _ _ ys _ O4.out.rd HI4.out.1).mono ?_
                  rintro e wx ⟨rfl, rfl⟩
                  go_wp2_with fail
                  go_roundg (ps.length - (i + 1))
                  case measure => have := HQ.out; omega
                  case rel => exact ⟨i + 1, at_ + l1 + ys.length, by go_num, by go_num, by omega, rfl, by unfold Hid; rw [vb_succ HZ.out, List.length_append, List.length_append, HL1.out, HAT.out]; omega, HO4, F4⟩
                · have hie : i = ps.length := by omega
                  subst hie
                  rw [List.take_length] at HAT
                  have hab : at_ = BB.length := by rw [HAT.out, HLB.out]
                  clear HQ hi
                  go_wp2_with fail
                  refine (awake_c _).mono ?_
                  rintro e w5 ⟨rfl, B⟩
                  have F5 := hid (HF.out.fresh_no B)
                  clear B
                  go_wp2_with fail
                  go_ret
                  exact ⟨rfl, F5.out⟩
end Go.Proofs.Ytdlabicepppfaaa
