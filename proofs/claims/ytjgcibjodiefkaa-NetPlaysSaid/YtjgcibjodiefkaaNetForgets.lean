import Derived.Test.YtjgcibjodiefkaaNetH
/-! NetForgets: Forget takes just what is on its way to a node. -/
namespace Go.Proofs.Ytjgcibjodiefkaa
open Go.RowKit
set_option linter.unusedVariables false
set_option linter.unusedSimpArgs false

theorem lst_nil (w0 w : World) (F : Nat → Prop) : Lst w0 w F (.slice none 0 0) [] := ⟨Own.nil _ _ _, fun k hk => absurd hk Of_none, fun k hk => absurd hk Of_none, by simp⟩

set_option maxRecDepth 100000 in
set_option maxHeartbeats 4000000 in
theorem netForgets_c (y : Value) (os : List OpV) (node : Int) (w : World) (hy : RdO w y os) :
    Calls Try.prog 8 #[y, .int .i64 node] w (RetT w) := by
  obtain ⟨A1, c1, rfl, q1, _⟩ := hy.1.slice_
  have HY := hid hy
  clear hy
  go_enter Try.func8, Try.ntmps8
  go_wp2_with fail
  refine (filled_c _ os w HY.out).mono ?_
  rintro e w1 ⟨g, F, v, m, rfl, S, L, hm⟩
  obtain ⟨A6, c6, rfl, hc6, _⟩ := L.own.slice
  have S1 := hid S
  have L1 := hid L
  have HM := hid hm
  clear S L hm
  go_wp2_with fail
  go_loopg [8, 9] m.length (fun q v8 v9 w' => ∃ (i : Nat), v9 = .int .i64 i ∧ i ≤ m.length ∧ q = m.length - i ∧ Hid (StN w w' g F 3 (m.map Gr.abs)) ∧ Hid (Lst w w' F (.slice A6 m.length c6) m) ∧ Hid (Lst w w' F v8 (left (m.take i) node)) ∧ Hid (∀ k, Of v8 k → ¬ Of (.slice A6 m.length c6) k))
  case atStart => exact ⟨0, rfl, by omega, rfl, S1, L1, lst_nil _ _ _, fun k hk => absurd hk Of_none⟩
  case round =>
    clear S1 L1
    obtain ⟨i, rfl, hi, hq, HS, HL, HL8, HNE⟩ := hrel
    have HQ := hid hq
    clear hq
    obtain ⟨A8, c8, rfl, hc8, _⟩ := HL8.out.own.slice
    have hm40 := HM.out
    by_cases d1 : i < m.length
    · have d2 : (i : Int) < m.length := by omega
      obtain ⟨b, off, c1', p, A', c', hv, hc', hp, hpm, hpv, r0, r1, r2⟩ := rdG_at HL.out.rd (HL.out.bytes HS.out.fr) d1
      injection hv with hv _ hcc
      subst hv hcc
      by_cases c2 : p.z = node
      · have d3 : (p.z != node) = false := by simpa using c2
        have HT := hid (show left (m.take (i + 1)) node = left (m.take i) node by
          unfold left
          rw [List.take_add_one, hp, List.filter_append]
          simp [c2])
        clear c2 hp hpm hpv
        go_wp2_with fail
        go_roundg (m.length - (i + 1))
        case measure => have := HQ.out; omega
        case rel => exact ⟨i + 1, by go_num, by omega, rfl, HS, HL, by rw [HT.out]; exact HL8, HNE⟩
      · have d3 : (p.z != node) = true := by simpa using c2
        have HT := hid (show left (m.take (i + 1)) node = left (m.take i) node ++ [p] by
          unfold left
          rw [List.take_add_one, hp, List.filter_append]
          simp [c2])
        have HD := hid (HL.out.data p hpm)
        have OO := hid (HL8.out.own.keep ((Fr.refl No wr).alloc (.cells #[.int .i64 p.a, .int .i64 p.z, .slice A' p.b.length c'] 29)) (fun k _ => not_no k))
        have hl8 : (left (m.take i) node).length ≤ i := by unfold left; have := List.length_filter_le (fun p : Gr => p.z != node) (m.take i); simp at this ⊢; omega
        generalize left (m.take i) node = r8 at HL8 hc8 HT OO hl8 HNE
        have HL8L := hid hl8
        have HPV := hid hpv
        have HM2 := hid (show (⟨p.a, p.z, .slice A' p.b.length c', p.b⟩ : Gr) = p by rw [← hpv])
        clear c2 hp hpm hpv hl8
        go_wp2_with (at_builtin; refine wpl_app _ rfl (.tmp 32) (.tmp 37) 38 rfl 29 _ 3 40 Try.underlying38 infoG rfl (.slice A8 r8.length c8) r8.length (rows Gr.cells r8) rfl OO.out (.slice (some ⟨wr.heap.size, 0, none⟩) 1 1) 1 (Gr.cells ⟨p.a, p.z, .slice A' p.b.length c', p.b⟩) rfl (Rd.lit1 wr 29 #[.int .i64 p.a, .int .i64 p.z, .slice A' p.b.length c'] 3 rfl) (by intro u hu; simp only [Gr.cells, List.mem_cons, List.not_mem_nil, or_false] at hu; rcases hu with rfl | rfl | rfl <;> rfl) (by have := HL8L.out; have := HM.out; simp only [maxLen]; omega) (by have := HL8L.out; have := HM.out; omega) ?_; intro v12 w12 o12 f12 g12)
        rw [HM2.out] at o12
        have L12 := hid (HL8.out.push HS.out (by simp) o12 g12 HD.out)
        have FA : Fr (Of (.slice A8 r8.length c8)) wr w12 := ((Fr.refl (Of (.slice A8 r8.length c8)) wr).alloc _).trans f12 (fun _ _ h => h)
        have S12 := hid (HS.out.keepS FA (fun k hk h => HL8.out.sep k h hk) (fun k h => HL8.out.new k h))
        have M12 := hid (show Lst w w12 F (.slice (some ⟨b, off, none⟩) m.length c6) m from ⟨HL.out.own.keep FA (fun k hk h => HNE.out k h hk), HL.out.new, HL.out.sep, HL.out.data⟩)
        have N12 := hid (show ∀ k, Of v12 k → ¬ Of (.slice (some ⟨b, off, none⟩) m.length c6) k from fun k hk h => by
          rcases g12 k hk with h2 | h2
          · exact HNE.out k h2 h
          · have := HL.out.own.lt k h; simp at h2; omega)
        clear o12 f12 g12 FA OO
        go_wp2_with fail
        go_roundg (m.length - (i + 1))
        case measure => have := HQ.out; omega
        case rel => exact ⟨i + 1, by go_num, by omega, rfl, S12, M12, by rw [HT.out]; exact L12, N12⟩
    · have hi2 : i = m.length := by omega
      subst hi2
      clear d1
      have HL82 := hid (show Lst w wr F (.slice A8 (left m node).length c8) (left m node) from by have := HL8.out; rw [List.take_length] at this; exact this)
      rw [List.take_length]
      have hlm : (left m node).length ≤ m.length := List.length_filter_le _ _
      have HFM := hid (forget_map m node)
      have HIDEM := hid (show forgetL ((left m node).map Gr.abs) node = (left m node).map Gr.abs from by
        rw [← forget_map]
        congr 1
        unfold left
        rw [List.filter_filter]
        simp)
      have HM2 := HM
      generalize left m node = r at HL82 HFM HIDEM hlm
      have hw : IntKind.i64.wrap ((m.length : Int) - r.length) = (m.length : Int) - r.length := by rw [IntKind.wrap_i64]; omega
      have HLM := hid hlm
      clear HL8 HNE hlm hm40
      go_wp2_with fail
      refine (forget_c HS.out.n node _ HFM.out.symm).mono ?_
      rintro e w2 ⟨rfl, I2, F2⟩
      rw [List.length_map, List.length_map]
      have S2 := hid (HS.out.same I2 F2)
      have L2 := hid (HL82.out.turn F2 (fun k hk => .inl hk))
      clear I2 F2 HS HL HL82
      have hb0 : ((m.length : Int) - r.length != (m.length : Int) - r.length) = false := by simp
      go_wp2_with fail
      refine (holds_c S2.out.n _ L2.out.rd (L2.out.bytes S2.out.fr)).mono ?_
      rintro e w3 ⟨rfl, F3⟩
      have S3 := hid (S2.out.keep F3)
      clear F3 S2 L2
      go_wp2_with fail
      refine (forget_c S3.out.n node _ HIDEM.out).mono ?_
      rintro e w4 ⟨rfl, I4, F4⟩
      rw [Int.sub_self]
      have S4 := hid (S3.out.same I4 F4)
      clear I4 F4 S3
      go_wp2_with fail
      have hOK := S4.out.n.ok
      obtain ⟨L0, hL0⟩ : ∃ L0, forgetL (r.map Gr.abs) 0 = L0 := ⟨_, rfl⟩
      obtain ⟨L1, hL1⟩ : ∃ L1, forgetL L0 1 = L1 := ⟨_, rfl⟩
      have hL2 : forgetL L1 2 = [] := by
        rw [← hL1, ← hL0]
        unfold forgetL
        rw [List.filter_filter, List.filter_filter, List.filter_eq_nil_iff]
        intro p hp
        have := (hOK p hp).2.1
        simp
        omega
      have l0 : L0.length ≤ r.length := by rw [← hL0]; have := List.length_filter_le (fun p : G3 => p.2.1 != 0) (r.map Gr.abs); unfold forgetL; simpa using this
      have l1 : L1.length ≤ L0.length := by rw [← hL1]; exact List.length_filter_le _ _
      have hm41 := HM2.out
      have hm42 := HLM.out
      have hw1 : IntKind.i64.wrap (((r.length : Int) - L0.length) + ((L0.length : Int) - L1.length)) = (r.length : Int) - L1.length := by rw [IntKind.wrap_i64]; omega
      have hw2 : IntKind.i64.wrap (((r.length : Int) - L1.length) + ((L1.length : Int) - 0)) = (r.length : Int) := by rw [IntKind.wrap_i64]; omega
      have hw3 : wrap64 (r.length : Int) = (r.length : Int) := by unfold wrap64; omega
      have HL0 := hid hL0
      have HL1 := hid hL1
      have HL2 := hid hL2
      clear hOK hL0 hL1 hL2 hm41 hm42 l0 l1
      refine (forget_c S4.out.n 0 _ HL0.out).mono ?_
      rintro e w5 ⟨rfl, I5, F5⟩
      rw [List.length_map]
      have S5 := hid (S4.out.same I5 F5)
      clear I5 F5 S4
      go_wp2_with fail
      refine (forget_c S5.out.n 1 _ HL1.out).mono ?_
      rintro e w6 ⟨rfl, I6, F6⟩
      have S6 := hid (S5.out.same I6 F6)
      clear I6 F6 S5
      go_wp2_with fail
      refine (forget_c S6.out.n 2 _ HL2.out).mono ?_
      rintro e w7 ⟨rfl, I7, F7⟩
      have S7 := hid (S6.out.same I7 F7)
      clear I7 F7 S6
      go_wp2_with fail
      refine (flying_c S7.out.n).mono ?_
      rintro e wx ⟨rfl, rfl⟩
      go_wp2_with fail
      refine (awake_c _).mono ?_
      rintro e w8 ⟨rfl, B⟩
      have F8 := hid (S7.out.fr.fresh_no B)
      clear B
      go_wp2_with fail
      go_ret
      exact ⟨rfl, F8.out⟩
end Go.Proofs.Ytjgcibjodiefkaa
