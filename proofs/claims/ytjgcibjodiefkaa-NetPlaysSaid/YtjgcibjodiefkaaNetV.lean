import Derived.Test.YtjgcibjodiefkaaNetU
/-! The document's net, by value: Copy, Forget. -/
namespace Go.Proofs.Ytjgcibjodiefkaa
open Go.RowKit
set_option linter.unusedVariables false
set_option linter.unusedSimpArgs false

set_option maxRecDepth 100000 in
set_option maxHeartbeats 1000000 in
theorem rcopy_c {w : World} {v : Value} {m : List Gr} (h : RefL w v m) (hm : m.length ≤ 4096) (nodes i : Int) (hok : ∀ p ∈ m, p.b.length ≤ 1048640) (r : List G3 × Nat) (hr : copyL nodes (m.map Gr.abs) i = r) :
    Calls Try.prog 22 #[refV nodes v, .int .i64 i] w (RetRE w nodes v m r) := by
  obtain ⟨A, c, rfl, hc, hcm⟩ := h.own.slice
  have H := hid h
  have hW : Fr No w ((w.alloc (.cells #[.int .i64 nodes, .slice A m.length c] 40)).alloc (.cells #[.int .i64 0, .slice none 0 0] 40)) := ((Fr.refl No w).alloc _).alloc _
  have D2 := hid ((Blk.new w 40 #[.int .i64 nodes, .slice A m.length c]).alloc (.cells #[.int .i64 0, .slice none 0 0] 40))
  have D4 := hid (Blk.new_ (w.alloc (.cells #[.int .i64 nodes, .slice A m.length c] 40)) 40 #[.int .i64 0, .slice none 0 0] (w.heap.size + 1) (by simp))
  have HS0 := hid (show ((w.alloc (.cells #[.int .i64 nodes, .slice A m.length c] 40)).alloc (.cells #[.int .i64 0, .slice none 0 0] 40)).heap.size = w.heap.size + 2 by simp)
  have HW := hid hW
  by_cases c1 : 0 ≤ i ∧ i < m.length
  · obtain ⟨i, rfl⟩ := Int.eq_ofNat_of_zero_le c1.1
    have c2 : i < m.length := by have := c1.2; omega
    obtain ⟨b, off, c1', p, A', c', hv, hc', hp, hpm, hpv, r0, r1, r2⟩ := rdG_at (H.out.keep hW).own.rd (fun q hq => ((H.out.keep hW).data q hq).rd) c2
    injection hv with hv _ hcc
    subst hv hcc
    have hl : lookL (m.map Gr.abs) i = (p.abs, true) := look_ok (by rw [List.getElem?_map, hp]; rfl)
    have hrr : sendL nodes (m.map Gr.abs) p.a p.z p.b = r := by rw [← hr]; unfold copyL; rw [hl]; rfl
    have HR := hid hrr
    have HBL := hid (hok p hpm)
    have hb : b < w.heap.size := by have := H.out.own.lt b (by simp [Value.ownBlock]); exact this
    have n1 : ¬ b = w.heap.size + 1 := by omega
    have n3 : ¬ w.heap.size + 1 = b := by omega
    have n7 : ¬ w.heap.size = w.heap.size + 1 := by omega
    have n8 : ¬ w.heap.size + 1 = w.heap.size := by omega
    have HPV := hid hpv
    have HPM := hid hpm
    obtain ⟨x0, x1, xf⟩ := D2.out.two
    clear h hr c1 hp hpm hpv hW hl hrr hok
    unfold refV
    go_enter Try.func22, Try.ntmps22
    go_wp2_with fail
    generalize (w.alloc (.cells #[.int .i64 nodes, .slice (some ⟨b, off, none⟩) m.length c] 40)).alloc (.cells #[.int .i64 0, .slice none 0 0] 40) = W at *
    have RD := hid (H.out.keep HW.out.drew)
    have YD := hid (show RdB W.drew (.slice A' p.b.length c') p.b from by rw [← HPV.out]; exact (RD.out.data p HPM.out).rd)
    go_region_held3 (fun w' => w'.cell? ⟨w.heap.size, 0, none⟩ = some (.int .i64 nodes) ∧ w'.cell? ⟨w.heap.size, 1, none⟩ = some (.slice (some ⟨b, off, none⟩) m.length c) ∧ w'.cell? ⟨b, off + i * 3, none⟩ = some (.int .i64 p.a) ∧ w'.cell? ⟨b, off + i * 3 + 1, none⟩ = some (.int .i64 p.z) ∧ w'.cell? ⟨b, off + i * 3 + 2, none⟩ = some (.slice A' p.b.length c'))
      (go_keep)
      ((first
      | (go_at_call 19
         refine (rsend_c RD.out hm nodes p.a p.z _ p.b YD.out (by have := HBL.out; omega) r HR.out).mono ?_
         rintro e w5 ⟨v5, m5, rfl, T5⟩
         obtain ⟨A5, c5', rfl, hc5', hm5'⟩ := T5.ref.own.slice
         have HT5 := hid (T5.from HW.out.drew)
         have E4 := hid (D4.out.drew.keep T5.fr (not_no _))
         have NW := hid (show ∀ k, Of (.slice A5 m5.length c5') k → k = b ∨ w.heap.size + 2 ≤ k from fun k hk => (T5.row k hk).imp (fun h => Of_some.1 h) (fun h => by have h2 := HS0.out; have h3 : W.drew.heap.size = W.heap.size := rfl; omega))
         have s0 := T5.fr.cs (show W.drew.cell? _ = _ from x0)
         have s1 := T5.fr.cs (show W.drew.cell? _ = _ from x1)
         have s2 := T5.fr.cs (show W.drew.cell? _ = _ from r0)
         have s3 := T5.fr.cs (show W.drew.cell? _ = _ from r1)
         have s4 := T5.fr.cs (show W.drew.cell? _ = _ from r2)
         obtain ⟨e0, e1, ef⟩ := E4.out.two
         clear T5
         unfold refV)
      | fail))
    go_wp2_with fail
    refine ⟨rfl, ?_⟩
    refine ⟨.tuple #[.agg #[.int .i64 nodes, .slice A5 m5.length c5'], .int .i64 r.2], ?_, ?_⟩
    · have hres : Try.f22.results = #[.cell 4 40, .tmp 5] := rfl
      simp [results, hres, asAddr]
      try go_simp
    · have FZ : ∀ x0 x1 : Value, Fr (fun k => k = w.heap.size + 1) w5 ((w5.setCell ⟨w.heap.size + 1, 0, none⟩ x0).setCell ⟨w.heap.size + 1, 1, none⟩ x1) := fun _ _ => Fr.setCell (S := fun k => k = w.heap.size + 1) (Fr.setCell (S := fun k => k = w.heap.size + 1) (Fr.refl _ w5) (fun _ => rfl) _) (fun _ => rfl) _
      refine ⟨_, m5, rfl, ⟨⟨?_, fun q hq => ?_⟩, HT5.out.abs, ?_, HT5.out.row, HT5.out.dat⟩⟩
      · refine HT5.out.ref.own.keep (FZ _ _) ?_
        rintro k hk rfl
        rcases NW.out _ hk with h | h <;> omega
      · have hq3 := HT5.out.ref.data q hq
        refine hq3.keep (FZ _ _) ?_
        rintro k hk rfl
        exact hq3.ne_ E4.out (by decide) hk
      · exact HT5.out.fr.fresh (FZ _ _) (by rintro k rfl; omega)
  · have hl : lookL (m.map Gr.abs) i = ((0, 0, []), false) := by unfold lookL; rw [if_neg (by rw [List.length_map]; exact c1)]
    have hr2 : r = (m.map Gr.abs, 2) := by rw [← hr]; unfold copyL; rw [hl]; rfl
    subst hr2
    clear h hr hW hl
    have hcs : i < 0 ∨ (¬ i < 0 ∧ (m.length : Int) ≤ i) := by omega
    clear c1
    unfold refV
    rcases hcs with g1 | ⟨g1, g2⟩
    all_goals
      go_enter Try.func22, Try.ntmps22
      go_wp2_with fail
      refine ⟨rfl, ?_⟩
      refine ⟨.tuple #[.agg #[.int .i64 nodes, .slice A m.length c], .int .i64 2], ?_, ?_⟩
      · have hres : Try.f22.results = #[.cell 4 40, .tmp 5] := rfl
        simp [results, hres, asAddr]
        try go_simp
      · refine ⟨_, m, rfl, H.out.same ?_⟩
        first
          | exact ((Fr.refl No w).alloc _).alloc _
          | (repeat (first | exact HW.out | refine Fr.setCell ?_ (fun h => absurd h (by simp)) _))

set_option maxRecDepth 100000 in
set_option maxHeartbeats 1000000 in
theorem rforget_c {w : World} {v : Value} {m : List Gr} (h : RefL w v m) (hm : m.length ≤ 4096) (nodes node : Int) (L' : List G3) (hL : forgetL (m.map Gr.abs) node = L') :
    Calls Try.prog 23 #[refV nodes v, .int .i64 node] w (RetRI w nodes v m L' ((m.length : Int) - L'.length)) := by
  subst hL
  rw [← forget_map, List.length_map]
  obtain ⟨A, c, rfl, hc, hcm⟩ := h.own.slice
  have H := hid h
  clear h
  unfold refV
  have hFW : Fr No w ((w.alloc (.cells #[.int .i64 nodes, .slice A m.length c] 40)).alloc (.cells #[.int .i64 0, .slice none 0 0] 40)) := ((Fr.refl No w).alloc _).alloc _
  have HFW := hid hFW
  have B4 := hid ((Blk.new w 40 #[.int .i64 nodes, .slice A m.length c]).alloc (.cells #[.int .i64 0, .slice none 0 0] 40))
  have B8 := hid (Blk.new_ (w.alloc (.cells #[.int .i64 nodes, .slice A m.length c] 40)) 40 #[.int .i64 0, .slice none 0 0] (w.heap.size + 1) (by simp))
  clear hFW
  go_enter Try.func23, Try.ntmps23
  go_wp2_with fail
  go_loopg [6, 7] m.length (fun q v6 v7 w' => ∃ i : Nat, v7 = .int .i64 i ∧ i ≤ m.length ∧ q = m.length - i ∧ Hid (Fr No w w') ∧ Hid (w.heap.size + 2 ≤ w'.heap.size) ∧ Hid (Gath w w' v6 m (left (m.take i) node)) ∧
    Hid (Blk w' w.heap.size 40 #[.int .i64 nodes, .slice A m.length c]) ∧ Hid (Blk w' (w.heap.size + 1) 40 #[.int .i64 0, .slice none 0 0]))
  case atStart => exact ⟨0, rfl, by omega, rfl, HFW.out, by simp [Hid], ⟨by simpa [left, rows] using Own.nil _ _ _, fun k hk => absurd hk Of_none, by simp [left]⟩, B4.out, B8.out⟩
  case round =>
    clear B4 B8
    obtain ⟨i, rfl, hi, hq, HF, HSZ, HG, HB4, HB8⟩ := hrel
    have HQ := hid hq
    clear hq
    obtain ⟨A5, c5, rfl, hc5, hm5⟩ := HG.out.own.slice
    obtain ⟨a0, a1, af⟩ := HB4.out.two
    by_cases d1 : i < m.length
    · have d2 : (i : Int) < m.length := by omega
      obtain ⟨b, off, c1', p, A', c', hv, hc', hp, hpm, hpv, r0, r1, r2⟩ := rdG_at (H.out.keep HF.out).own.rd (fun q hq => ((H.out.keep HF.out).data q hq).rd) d1
      injection hv with hv _ hcc
      subst hv hcc
      by_cases d3 : p.z = node
      · have d4 : (p.z != node) = false := by simpa using d3
        have HT := hid (show left (m.take (i + 1)) node = left (m.take i) node by
          unfold left
          rw [List.take_add_one, hp, List.filter_append]
          simp [d3])
        clear d3 hp hpm hpv
        go_wp2_with fail
        go_roundg (m.length - (i + 1))
        case measure => have := HQ.out; omega
        case rel => exact ⟨i + 1, by go_num, by omega, rfl, HF, HSZ, by rw [HT.out]; exact HG, HB4, HB8⟩
      · have d4 : (p.z != node) = true := by simpa using d3
        have HT := hid (show left (m.take (i + 1)) node = left (m.take i) node ++ [p] by
          unfold left
          rw [List.take_add_one, hp, List.filter_append]
          simp [d3])
        have hl8 : (left (m.take i) node).length ≤ i := by unfold left; have := List.length_filter_le (fun p : Gr => p.z != node) (m.take i); simp at this ⊢; omega
        generalize left (m.take i) node = r8 at HG HT hc5 hl8 ⊢
        have HL8 := hid hl8
        have OO := hid (HG.out.own.keep ((Fr.refl No wr).alloc (.cells #[.int .i64 p.a, .int .i64 p.z, .slice A' p.b.length c'] 29)) (fun k _ => not_no k))
        have HM2 := hid (show (⟨p.a, p.z, .slice A' p.b.length c', p.b⟩ : Gr) = p by rw [← hpv])
        have HPM := hid hpm
        clear d3 hp hpm hpv hl8
        go_wp2_with (at_builtin; refine wpl_app _ rfl (.tmp 24) (.tmp 30) 38 rfl 29 _ 3 40 Try.underlying38 infoG rfl (.slice A5 r8.length c5) r8.length (rows Gr.cells r8) rfl OO.out (.slice (some ⟨wr.heap.size, 0, none⟩) 1 1) 1 (Gr.cells ⟨p.a, p.z, .slice A' p.b.length c', p.b⟩) rfl (Rd.lit1 wr 29 #[.int .i64 p.a, .int .i64 p.z, .slice A' p.b.length c'] 3 rfl) (by intro u hu; simp only [Gr.cells, List.mem_cons, List.not_mem_nil, or_false] at hu; rcases hu with rfl | rfl | rfl <;> rfl) (by have := HL8.out; simp only [maxLen]; omega) (by have := HL8.out; omega) ?_; intro v12 w12 o12 f12 g12)
        rw [HM2.out] at o12
        have G12 := hid (HG.out.push (w1 := wr.alloc (.cells #[.int .i64 p.a, .int .i64 p.z, .slice A' p.b.length c'] 29)) (by have := HSZ.out; simp; omega) o12 g12 HPM.out)
        have FA : Fr (Of (.slice A5 r8.length c5)) wr w12 := ((Fr.refl (Of (.slice A5 r8.length c5)) wr).alloc _).trans f12 (fun _ _ h => h)
        have F12 := hid (HF.out.fresh FA (fun k hk => by have := HG.out.new k hk; omega))
        have SZ12 := hid (Nat.le_trans HSZ.out FA.size)
        have B412 := hid (HB4.out.keep FA (fun h => by have := HG.out.new _ h; omega))
        have B812 := hid (HB8.out.keep FA (fun h => by have := HG.out.new _ h; omega))
        clear o12 f12 g12 FA OO
        go_wp2_with fail
        go_roundg (m.length - (i + 1))
        case measure => have := HQ.out; omega
        case rel => exact ⟨i + 1, by go_num, by omega, rfl, F12, SZ12, by rw [HT.out]; exact G12, B412, B812⟩
    · have hi2 : i = m.length := by omega
      subst hi2
      clear d1
      rw [List.take_length] at HG hc5 ⊢
      have hsub : ∀ p ∈ left m node, p ∈ m := HG.out.sub
      obtain ⟨b0, b1, bf⟩ := HB8.out.two
      have hlm : (left m node).length ≤ m.length := List.length_filter_le _ _
      have hw : IntKind.i64.wrap ((m.length : Int) - (left m node).length) = (m.length : Int) - (left m node).length := by rw [IntKind.wrap_i64]; omega
      go_wp2_with fail
      refine ⟨rfl, ?_⟩
      refine ⟨.tuple #[.agg #[.int .i64 nodes, .slice A5 (left m node).length c5], .int .i64 ((m.length : Int) - (left m node).length)], ?_, ?_⟩
      · have hres : Try.f23.results = #[.cell 4 40, .tmp 5] := rfl
        simp [results, hres, asAddr]
        try go_simp
      · have FZ : ∀ x0 x1 x2 : Value, Fr (fun k => k = w.heap.size ∨ k = w.heap.size + 1) wr (((wr.setCell ⟨w.heap.size, 1, none⟩ x0).setCell ⟨w.heap.size + 1, 0, none⟩ x1).setCell ⟨w.heap.size + 1, 1, none⟩ x2) := fun _ _ _ => Fr.setCell (Fr.setCell (Fr.setCell (Fr.refl _ wr) (fun _ => .inl rfl) _) (fun _ => .inr rfl) _) (fun _ => .inr rfl) _
        refine ⟨_, left m node, rfl, ⟨⟨?_, ?_⟩, rfl, ?_, ?_, ?_⟩⟩
        · refine HG.out.own.keep (FZ _ _ _) ?_
          rintro q hq (rfl | rfl)
          · have := HG.out.new _ hq; omega
          · have := HG.out.new _ hq; omega
        · intro q hq
          have hq3 := (H.out.keep HF.out).data q (hsub q hq)
          refine hq3.keep (FZ _ _ _) ?_
          rintro k' hk' (rfl | rfl)
          · exact hq3.ne_ HB4.out (by decide) hk'
          · exact hq3.ne_ HB8.out (by decide) hk'
        · exact HF.out.fresh (FZ _ _ _) (by rintro q (rfl | rfl) <;> omega)
        · exact fun q hq => .inr (by have := HG.out.new q hq; omega)
        · exact fun q hq => .inl (hsub q hq)
end Go.Proofs.Ytjgcibjodiefkaa
