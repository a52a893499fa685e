import Derived.Test.YtjgcibjodiefkaaNetForgets
/-! NetBack: a copy that is dropped, and one that is taken, leave all as it was. -/
namespace Go.Proofs.Ytjgcibjodiefkaa
open Go.RowKit
set_option linter.unusedVariables false
set_option linter.unusedSimpArgs false

/-- a call of a function of four arguments, maybe behind a guard, as one step of a region that draws -/
theorem step_fn4w {P : Program} {ops : Array Oper} {o : Oper} {a : Act} {w : World} {K : Act → World → Prop} {Q : Exit → Act → World → Prop} {E : Prop} (hw : Region.wanted o (yielded ops a.tmps) = true) (f : FuncId) (x y z u : Operand) (t t2 t3 t4 : TypeId)
    (ho : o.op = .call { callee := .value (.func f), args := #[x, y, z, u], argTypes := #[t, t2, t3, t4] }) (v v2 v3 v4 : Value) (hx : a.eval x = v) (hy : a.eval y = v2) (hz : a.eval z = v3) (hu : a.eval u = v4) (R : Value → World → Prop)
    (hc : Calls P f #[v, v2, v3, v4] w fun e w' => ∃ r, e = .returned r ∧ R r w') (hcf : (callFunc f #[v, v2, v3, v4]).run P w = .ok (.enter f #[v, v2, v3, v4]) w) (h : ∀ r w', R r w' → K (a.put o.dst r) w') :
    if Region.wanted o (yielded ops a.tmps) = true then Oper.wp P o a w K Q else E := by
  rw [if_pos hw]
  have he : (execOp a.eval o).run P w = .ok (.enter f #[v, v2, v3, v4]) w := by
    have hf : a.eval (.func f) = .func (.func f) #[] #[] := rfl
    simp [execOp, ho, resolve, invoke, hx, hy, hz, hu, hf, Deferred.ofValue, hcf]
  unfold Oper.wp
  rw [he, Oper.upon_enter]
  refine hc.mono ?_
  rintro e w' ⟨r, rfl, hr⟩
  exact h r w' hr
theorem own_apart {e e' : TypeId} {size size' : Nat} {w : World} {v v' : Value} {n n' : Nat} {xs xs' : List Value} (h : Own e size w v n xs) (h' : Own e' size' w v' n' xs') (hne : e ≠ e') : ∀ k, Of v k → ¬ Of v' k := by
  intro k hk hk'
  rcases h.2 with ⟨h0, _⟩ | ⟨g, cap, cur, h0, hc, _⟩
  · rw [h0] at hk; exact Of_none hk
  · rw [h0] at hk
    rw [Of_some.1 hk] at hk'
    exact h'.ne_ (g' := g) (cs' := cur) hc (fun e => hne e.symm) hk'
theorem rows_isl {m : List Gr} (hs : ∀ p ∈ m, Isl p) : ∀ u ∈ rows Gr.cells m, u.oneCell' = true := by
  intro u hu
  simp only [rows, List.mem_flatten, List.mem_map] at hu
  obtain ⟨r, ⟨p, hp, rfl⟩, hu⟩ := hu
  simp only [Gr.cells, List.mem_cons, List.not_mem_nil, or_false] at hu
  rcases hu with rfl | rfl | rfl
  · rfl
  · rfl
  · obtain ⟨A', n', c', e⟩ := hs p hp
    rw [e]
    rfl
theorem Lst.isl {w0 w : World} {F : Nat → Prop} {v : Value} {m : List Gr} (h : Lst w0 w F v m) : ∀ p ∈ m, Isl p := fun p hp => by
  obtain ⟨A', c', e, _⟩ := (h.data p hp).1.slice
  exact ⟨_, _, _, e⟩
theorem take_last (L : List G3) (p : G3) : takeL (L ++ [p]) (L.length : Int) = L := by
  unfold takeL
  rw [if_pos (by rw [List.length_append, List.length_singleton]; omega)]
  simp [List.eraseIdx_append_of_length_le]
theorem Fr.csS {S : Nat → Prop} {w w' : World} (hf : Fr S w w') {b o : Nat} {v : Value} (hS : ¬ S b) (h : w.cell? ⟨b, o, none⟩ = some v) : w'.cell? ⟨b, o, none⟩ = some v :=
  (hf.cell (World.block_lt_of_cell? w _ h) hS o).trans h
theorem Fr.cs {w w' : World} (hf : Fr No w w') {b o : Nat} {v : Value} (h : w.cell? ⟨b, o, none⟩ = some v) : w'.cell? ⟨b, o, none⟩ = some v := hf.csS (not_no _) h
theorem look_last (L : List G3) (p : G3) : lookL (L ++ [p]) (L.length : Int) = (p, true) := look_ok (by simp)

set_option maxRecDepth 100000 in
set_option maxHeartbeats 1000000 in
theorem netBack_c (y : Value) (os : List OpV) (at_ : Int) (hat1 : -9223372036854775808 ≤ at_) (hat2 : at_ ≤ 9223372036854775807) (w : World) (hy : RdO w y os) :
    Calls Try.prog 7 #[y, .int .i64 at_] w (RetT w) := by
  obtain ⟨A1, c1, rfl, q1, _⟩ := hy.1.slice_
  have HY := hid hy
  clear hy
  go_enter Try.func7, Try.ntmps7
  go_wp2_with fail
  refine (filled_c _ os w HY.out).mono ?_
  rintro e w1 ⟨g, F, v, m, rfl, S, L, hm⟩
  obtain ⟨A6, c6, rfl, hc6, _⟩ := L.own.slice
  have S1 := hid S
  have L1 := hid L
  have HM := hid hm
  clear S L
  go_wp2_with fail
  refine (holds_c S1.out.n _ L1.out.rd (L1.out.bytes S1.out.fr)).mono ?_
  rintro e w2 ⟨rfl, F2⟩
  have S2 := hid (S1.out.keep F2)
  have L2 := hid (L1.out.keep F2)
  clear F2 S1 L1
  by_cases c0 : m.length = 0
  · have hm0 : m = [] := List.eq_nil_of_length_eq_zero c0
    have c0' : ((m.length : Int) == 0) = true := by rw [beq_iff_eq]; omega
    subst hm0
    clear c0
    go_wp2_with fail
    refine (ncopy_c S2.out.n 0 ([], 2) rfl).mono ?_
    intro e w3 hr
    obtain ⟨F3, rfl, S', -, -⟩ := S2.out.send' (Fr.refl No _) hr
    have S3 := hid (show StN w w3 g F3 3 [] from S')
    clear S' hr S2 L2
    go_wp2_with fail
    refine (drop_c S3.out.n 0 false rfl [] rfl).mono ?_
    rintro e w4 ⟨rfl, I4, F4⟩
    have S4 := hid (S3.out.same I4 F4)
    clear I4 F4 S3
    go_wp2_with fail
    refine (awake_c _).mono ?_
    rintro e w8 ⟨rfl, B⟩
    have F8 := hid (S4.out.fr.fresh_no B)
    clear B
    go_wp2_with fail
    go_ret
    exact ⟨rfl, F8.out⟩
  · have c0' : ((m.length : Int) == 0) = false := by rw [beq_eq_false_iff_ne]; omega
    go_wp2_with fail
    refine (pick_c at_ m.length hat1 hat2 (by omega) (by omega) _).mono ?_
    rintro e wx ⟨rfl, rfl⟩
    have hk0 := Int.emod_nonneg at_ (show (m.length : Int) ≠ 0 by omega)
    have hk1 := Int.emod_lt_of_pos at_ (show (0 : Int) < m.length by omega)
    obtain ⟨k, hk⟩ := Int.eq_ofNat_of_zero_le hk0
    rw [hk] at hk1 ⊢
    replace hk1 : k < m.length := by omega
    clear hk hk0 c0
    obtain ⟨p, hp⟩ : ∃ p, m[k]? = some p := ⟨m[k], by simp [hk1]⟩
    have hpL : (m.map Gr.abs)[k]? = some p.abs := by rw [List.getElem?_map, hp]; rfl
    have hok := S2.out.n.ok p.abs (List.mem_of_getElem? hpL)
    have HCP := hid (copy_ok (nodes := 3) hpL hok.1 hok.2.1 hok.2.2 (by rw [List.length_map]; omega))
    have HP := hid hp
    have HPL := hid hpL
    have HOK := hid hok
    have HLL := hid (show ((m.map Gr.abs).length : Int) = m.length by simp)
    clear hp hpL hok
    go_wp2_with fail
    refine (ncopy_c S2.out.n k _ HCP.out).mono ?_
    intro e w3 hr
    obtain ⟨F3, rfl, S', hF, hG⟩ := S2.out.send' (Fr.refl No _) hr
    have S3 := hid (show StN w w3 g F3 3 (m.map Gr.abs ++ [p.abs]) from S')
    have L3 := hid (L2.out.turn hF hG)
    clear S' hr hF hG S2 L2
    go_wp2_with fail
    rw [← HLL.out]
    refine (drop_c S3.out.n _ true (by rw [look_last]) (m.map Gr.abs) (take_last _ _)).mono ?_
    rintro e w4 ⟨rfl, I4, F4⟩
    rw [HLL.out]
    have S4 := hid (S3.out.same I4 F4)
    have L4 := hid (L3.out.turn F4 (fun k hk => .inl hk))
    clear I4 F4 S3 L3
    go_wp2_with fail
    refine (holds_c S4.out.n _ L4.out.rd (L4.out.bytes S4.out.fr)).mono ?_
    rintro e w5 ⟨rfl, F5⟩
    have S5 := hid (S4.out.keep F5)
    have L5 := hid (L4.out.keep F5)
    clear F5 S4 L4
    go_wp2_with fail
    refine (ncopy_c S5.out.n k _ HCP.out).mono ?_
    intro e w6 hr
    obtain ⟨F6, rfl, S', hF, hG⟩ := S5.out.send' (Fr.refl No _) hr
    have S6 := hid (show StN w w6 g F6 3 (m.map Gr.abs ++ [p.abs]) from S')
    have L6 := hid (L5.out.turn hF hG)
    clear S' hr hF hG S5 L5
    go_wp2_with fail
    rw [← HLL.out]
    refine (take_c S6.out.n _ (p.abs, true) (look_last _ _) (m.map Gr.abs) (take_last _ _)).mono ?_
    rintro e w7 ⟨v7, rfl, O7, I7, F7, G7⟩
    rw [HLL.out]
    replace O7 : OwnB 5 w7 v7 p.b := O7
    obtain ⟨A7, c7, rfl, hc7⟩ := O7.slice
    have hF8 : Fr No w7 (w7.alloc (.cells #[.int .i64 p.a, .int .i64 p.z, .slice A7 p.b.length c7] 29)) := (Fr.refl No w7).alloc _
    have S8 := hid ((S6.out.same I7 F7).keep hF8)
    have L8 := hid ((L6.out.turn F7 (fun k hk => .inl hk)).keep hF8)
    have O8 := hid (O7.keep hF8 (fun k _ => not_no k))
    have D8 := hid (Blk.new w7 29 #[.int .i64 p.a, .int .i64 p.z, .slice A7 p.b.length c7])
    obtain ⟨b, off, c1', p', A', c', hv, hc', hp', hpm, hpv, r0, r1, r2⟩ := rdG_at L8.out.rd (L8.out.bytes S8.out.fr) hk1
    have e1 : p' = p := by rw [HP.out] at hp'; exact (Option.some.inj hp').symm
    subst e1
    have HPM := hid hpm
    injection hv with hv _ hcc
    subst hv hcc
    have P8 := hid (show RdB (w7.alloc (.cells #[.int .i64 p'.a, .int .i64 p'.z, .slice A7 p'.b.length c7] 29)) (.slice A' p'.b.length c') p'.b from by rw [← hpv]; exact L8.out.bytes S8.out.fr _ hpm)
    obtain ⟨a0, a1, a2, af⟩ := D8.out.three
    have HPV := hid hpv
    clear O7 I7 F7 G7 hF8 hp' hpm hpv S6 L6
    have hk1' : (k : Int) < m.length := by omega
    unfold Gr.abs
    go_wp2_with fail
    have SD := hid (S8.out.keep ((Fr.refl No _).drew))
    have LD := hid (L8.out.keep ((Fr.refl No _).drew))
    go_region_held3 (fun w' => w'.cell? ⟨w7.heap.size, 0, none⟩ = some (.int .i64 p'.a) ∧ w'.cell? ⟨w7.heap.size, 1, none⟩ = some (.int .i64 p'.z) ∧ w'.cell? ⟨w7.heap.size, 2, none⟩ = some (.slice A7 p'.b.length c7) ∧ w'.cell? ⟨b, off + k * 3, none⟩ = some (.int .i64 p'.a) ∧ w'.cell? ⟨b, off + k * 3 + 1, none⟩ = some (.int .i64 p'.z) ∧ w'.cell? ⟨b, off + k * 3 + 2, none⟩ = some (.slice A' p'.b.length c'))
      (first
        | exact ⟨a0, a1, a2, r0, r1, r2⟩
        | exact ⟨HF9.out.cs a0, HF9.out.cs a1, HF9.out.cs a2, HF9.out.cs r0, HF9.out.cs r1, HF9.out.cs r2⟩
        | exact ⟨HF10.out.cs (HF9.out.cs a0), HF10.out.cs (HF9.out.cs a1), HF10.out.cs (HF9.out.cs a2), HF10.out.cs (HF9.out.cs r0), HF10.out.cs (HF9.out.cs r1), HF10.out.cs (HF9.out.cs r2)⟩)
      ((first
      | (go_at_call 24; refine (same_g _ p'.a p'.z p'.a p'.z _ _ p'.b p'.b (O8.out.rd.heap (by rfl)) (P8.out.heap (by rfl)) true (by simp)).mono ?_; rintro e w9 ⟨rfl, F9⟩; have HF9 := hid (show Fr No (w7.alloc (.cells #[.int .i64 p'.a, .int .i64 p'.z, .slice A7 p'.b.length c7] 29)).drew w9 from F9); have S9 := hid (SD.out.keep HF9.out); have L9 := hid (LD.out.keep HF9.out); clear F9)
      | (go_at_call 28; refine (holds_c S9.out.n _ L9.out.rd (L9.out.bytes S9.out.fr)).mono ?_; rintro e w10 ⟨rfl, F10⟩; have HF10 := hid F10; have S10 := hid (S9.out.keep F10); have L10 := hid (L9.out.keep F10); clear F10)))
    clear S8 L8 O8 D8 P8 r0 r1 r2 a0 a1 a2 af SD LD HF9 S9 L9 HF10
    have hwk : IntKind.i64.wrap ((k : Int) + 1) = ((k + 1 : Nat) : Int) := by rw [IntKind.wrap_i64]; omega
    go_wp2_with fail
    obtain ⟨L', hL'⟩ : ∃ L', (m.map Gr.abs).eraseIdx k = L' := ⟨_, rfl⟩
    refine (take_c S10.out.n k (p'.abs, true) (look_ok HPL.out) L' (by unfold takeL; rw [if_pos (by rw [List.length_map]; omega)]; exact hL')).mono ?_
    have HL' := hid hL'
    clear hL'
    rintro e w11 ⟨v11, rfl, O11, I11, F11, G11⟩
    replace O11 : OwnB 5 w11 v11 p'.b := O11
    obtain ⟨A11, c11, rfl, hc11⟩ := O11.slice
    have hF12 : Fr No w11 (w11.alloc (.cells #[.int .i64 p'.a, .int .i64 p'.z, .slice A11 p'.b.length c11] 29)) := (Fr.refl No w11).alloc _
    have S12 := hid ((S10.out.same I11 F11).keep hF12)
    have L12 := hid ((L10.out.turn F11 (fun k hk => .inl hk)).keep hF12)
    have O12 := hid (O11.keep hF12 (fun k _ => not_no k))
    have D12 := hid (Blk.new w11 29 #[.int .i64 p'.a, .int .i64 p'.z, .slice A11 p'.b.length c11])
    have N12 := hid (show ¬ F6 w11.heap.size ∧ ∀ k, Of (.slice A11 p'.b.length c11) k → ¬ F6 k from ⟨fun h => by have := S10.out.n.lt _ h; have := F11.size; omega, fun k hk h => by have h1 := S10.out.n.lt _ h; have h2 := G11 k hk; omega⟩)
    clear O11 I11 F11 G11 hF12 S10 L10
    unfold Gr.abs
    have q0 : (k : Int) ≤ m.length := by omega
    have q0' : k ≤ m.length := by omega
    have qa : (0 : Int) ≤ (k : Int) + 1 := by omega
    have qb : (k : Int) + 1 ≤ m.length := by omega
    have q1' : k + 1 ≤ m.length := by omega
    have q2 : k ≤ c6 := by omega
    have q3 : k + 1 ≤ c6 := by omega
    have HAD : Rd 3 (w11.alloc (.cells #[.int .i64 p'.a, .int .i64 p'.z, .slice A11 p'.b.length c11] 29)).drew (.slice (some ⟨b, off, none⟩) m.length c6) m.length (rows Gr.cells m) := L12.out.rd.keep ((Fr.refl No _).drew) (fun k _ => not_no k)
    have HT := hid (show Rd 3 (w11.alloc (.cells #[.int .i64 p'.a, .int .i64 p'.z, .slice A11 p'.b.length c11] 29)).drew (.slice (some ⟨b, off, none⟩) k c6) k (rows Gr.cells (m.take k)) from by have := HAD.take (m := k) (c' := c6) q0' q2; rwa [rows_take Gr.cells_length] at this)
    have HDR := hid (show Rd 3 (w11.alloc (.cells #[.int .i64 p'.a, .int .i64 p'.z, .slice A11 p'.b.length c11] 29)).drew (.slice (if c6 = k + 1 then some ⟨b, off, none⟩ else (some ⟨b, off + (k + 1) * 3, none⟩ : Option Addr)) (m.length - (k + 1)) (c6 - (k + 1))) (m.length - (k + 1)) (rows Gr.cells (m.drop (k + 1))) from by have := HAD.drop (m := k + 1) (c' := c6 - (k + 1)) q1' (by omega); rw [rows_drop Gr.cells_length, Option.map_some, add_off] at this; exact this)
    have HISL := hid L12.out.isl
    clear HAD
    go_wp2_with fail
    go_region_law ((first
      | (refine step_app _ (by rfl) (.tmp 99) (.tmp 102) 38 (by rfl) 29 _ 3 40 Try.underlying38 infoG (by rfl) (.slice none 0 0) 0 [] (by simp [Act.eval, Act.put]) (Own.nil _ _ _) (.slice (some ⟨b, off, none⟩) k c6) k (rows Gr.cells (m.take k)) (by simp [Act.eval, Act.put]) HT.out (rows_isl (fun p hp => HISL.out p (List.mem_of_mem_take hp))) (by simp only [maxLen]; omega) (by omega) ?_
         intro v13 w13 o13 f13 g13
         simp only [Nat.zero_add, List.nil_append] at o13
         have O13 := hid o13
         have F13 := hid (show Fr No (w11.alloc (.cells #[.int .i64 p'.a, .int .i64 p'.z, .slice A11 p'.b.length c11] 29)).drew w13 from f13.mono (fun k _ h => absurd h Of_none))
         have G13 := hid g13
         clear o13 f13 g13
         obtain ⟨A13, c13, rfl, hc13, hm13⟩ := O13.out.slice)
      | (refine step_app _ (by rfl) (.tmp 103) (.tmp 107) 38 (by rfl) 29 _ 3 40 Try.underlying38 infoG (by rfl) (.slice A13 k c13) k (rows Gr.cells (m.take k)) (by simp [Act.eval, Act.put]) O13.out (.slice (if c6 = k + 1 then some ⟨b, off, none⟩ else (some ⟨b, off + (k + 1) * 3, none⟩ : Option Addr)) (m.length - (k + 1)) (c6 - (k + 1))) (m.length - (k + 1)) (rows Gr.cells (m.drop (k + 1))) (by simp [Act.eval, Act.put]) (HDR.out.keep F13.out (fun k _ => not_no k)) (rows_isl (fun p hp => HISL.out p (List.mem_of_mem_drop hp))) (by simp only [maxLen]; omega) (by omega) ?_
         intro v14 w14 o14 f14 g14
         have O14 := hid o14
         have F14 := hid f14
         have G14 := hid g14
         clear o14 f14 g14
         obtain ⟨A14, c14, rfl, hc14, hm14⟩ := O14.out.slice)))
    have FA := hid (show Fr No (w11.alloc (.cells #[.int .i64 p'.a, .int .i64 p'.z, .slice A11 p'.b.length c11] 29)) w14 from
      (((Fr.refl No _).drew).fresh_no F13.out).fresh F14.out (fun k hk => by rcases G13.out k hk with h | h; exact absurd h Of_none; exact Nat.le_of_eq h.symm))
    have hrl : k + (m.length - (k + 1)) = (m.eraseIdx k).length := by rw [List.length_eraseIdx]; split <;> omega
    have hrr : rows Gr.cells (m.take k) ++ rows Gr.cells (m.drop (k + 1)) = rows Gr.cells (m.eraseIdx k) := by rw [← rows_append, List.eraseIdx_eq_take_drop_succ]
    have hrm : ∀ p ∈ m.eraseIdx k, p ∈ m := fun p hp => List.mem_of_mem_eraseIdx hp
    have hLr : L' = (m.eraseIdx k).map Gr.abs := by rw [← HL'.out]; simp [List.eraseIdx_eq_take_drop_succ]
    subst hLr
    have hr40 : (m.eraseIdx k).length ≤ 40 := by rw [← hrl]; omega
    rw [hrr, hrl] at O14
    rw [hrl] at G14 hc14 ⊢
    generalize m.eraseIdx k = r at HL' S12 O14 G14 hrm hc14 hr40
    have LR := hid (show Lst w w14 F6 (.slice A14 r.length c14) r from ⟨O14.out, fun q hq => by
        have : (w11.alloc (.cells #[.int .i64 p'.a, .int .i64 p'.z, .slice A11 p'.b.length c11] 29)).heap.size ≤ q := by
          rcases G14.out q hq with h | h
          · rcases G13.out q h with h | h
            · exact absurd h Of_none
            · exact Nat.le_of_eq h.symm
          · rw [h]; exact F13.out.size
        exact Nat.le_trans S12.out.fr.size this, fun q hq hF => by
        have : (w11.alloc (.cells #[.int .i64 p'.a, .int .i64 p'.z, .slice A11 p'.b.length c11] 29)).heap.size ≤ q := by
          rcases G14.out q hq with h | h
          · rcases G13.out q h with h | h
            · exact absurd h Of_none
            · exact Nat.le_of_eq h.symm
          · rw [h]; exact F13.out.size
        have := S12.out.n.lt _ hF
        omega, fun q hq => L12.out.data q (hrm q hq)⟩)
    have S14 := hid (S12.out.keep FA.out)
    have L14 := hid (L12.out.keep FA.out)
    have O14' := hid (O12.out.keep FA.out (fun k _ => not_no k))
    have D14 := hid (D12.out.keep FA.out (not_no _))
    obtain ⟨b1, off1, cc1, p1, A1', c1'', hv1, hc1', hp1, hpm1, hpv1, r0, r1, r2⟩ := rdG_at L14.out.rd (L14.out.bytes S14.out.fr) hk1
    have e1 : p1 = p' := by rw [HP.out] at hp1; exact (Option.some.inj hp1).symm
    subst e1
    injection hv1 with hv1 _ hcc1
    injection hv1 with hv1
    injection hv1 with hb1 hoff1
    subst hb1 hoff1 hcc1
    have P14 := hid (show RdB w14 (.slice A1' p1.b.length c1'') p1.b from by rw [← hpv1]; exact L14.out.bytes S14.out.fr _ hpm1)
    obtain ⟨a0, a1, a2, af⟩ := D14.out.three
    have SB := hid (show ¬ F6 b from fun h => L14.out.sep b (by simp [Of, Value.ownBlock]) h)
    have SD := hid (S14.out.keep ((Fr.refl No _).drew))
    have LD := hid (L14.out.keep ((Fr.refl No _).drew))
    have LRD := hid (LR.out.keep ((Fr.refl No _).drew))
    have OD := hid (O14'.out.keep ((Fr.refl No _).drew) (fun k _ => not_no k))
    clear O13 O14 F13 F14 G13 G14 HT HDR HISL S12 L12 O12 D12 FA hrl hrr hrm hp1 hpm1 hpv1 hc14 LR
    go_wp2_with fail
    all_goals
     go_region_held3 (fun w' => w'.cell? ⟨w11.heap.size, 0, none⟩ = some (.int .i64 p1.a) ∧ w'.cell? ⟨w11.heap.size, 1, none⟩ = some (.int .i64 p1.z) ∧ w'.cell? ⟨w11.heap.size, 2, none⟩ = some (.slice A11 p1.b.length c11) ∧ w'.cell? ⟨b, off + k * 3, none⟩ = some (.int .i64 p1.a) ∧ w'.cell? ⟨b, off + k * 3 + 1, none⟩ = some (.int .i64 p1.z) ∧ w'.cell? ⟨b, off + k * 3 + 2, none⟩ = some (.slice A1' p1.b.length c1''))
      (first
        | exact ⟨a0, a1, a2, r0, r1, r2⟩
        | exact ⟨HF15.out.cs a0, HF15.out.cs a1, HF15.out.cs a2, HF15.out.cs r0, HF15.out.cs r1, HF15.out.cs r2⟩
        | exact ⟨HF16.out.cs a0, HF16.out.cs a1, HF16.out.cs a2, HF16.out.cs r0, HF16.out.cs r1, HF16.out.cs r2⟩
        | exact ⟨HF17.out.csS N12.out.1 (HF16.out.cs a0), HF17.out.csS N12.out.1 (HF16.out.cs a1), HF17.out.csS N12.out.1 (HF16.out.cs a2), HF17.out.csS SB.out (HF16.out.cs r0), HF17.out.csS SB.out (HF16.out.cs r1), HF17.out.csS SB.out (HF16.out.cs r2)⟩)
      ((first
      | (go_at_call 24; refine (same_g _ p1.a p1.z p1.a p1.z _ _ p1.b p1.b (O14'.out.rd.heap (by rfl)) (P14.out.heap (by rfl)) true (by simp)).mono ?_; rintro e w15 ⟨rfl, F15⟩; have HF15 := hid (show Fr No w14.drew w15 from F15); have S15 := hid (SD.out.keep HF15.out); have L15 := hid (LRD.out.keep HF15.out); have O15 := hid (OD.out.keep HF15.out (fun k _ => not_no k)); clear F15)
      | (go_at_call 28; refine (holds_c S15.out.n _ L15.out.rd (L15.out.bytes S15.out.fr)).mono ?_; rintro e w16 ⟨rfl, F16⟩; have HF16 := hid (show Fr No w14.drew w16 from HF15.out.fresh_no F16); have S16 := hid (S15.out.keep F16); have L16 := hid (L15.out.keep F16); have O16 := hid (O15.out.keep F16 (fun k _ => not_no k)); clear F16)
      | (go_at_call 11; refine (send_c S16.out.n p1.a p1.z _ p1.b O16.out.rd (by have := HOK.out.2.2; simp only [Gr.abs] at this; omega) (r.map Gr.abs ++ [p1.abs], 0) (send_ok (b := p1.b) HOK.out.1 HOK.out.2.1 HOK.out.2.2 (by rw [List.length_map]; omega))).mono ?_; intro e w17 hr; obtain ⟨F17, rfl, S', hF, hG⟩ := S16.out.send' (Fr.refl No _) hr; have HF17 := hid hF; have S17 := hid (show StN w w17 g F17 3 (r.map Gr.abs ++ [p1.abs]) from S'); have L17 := hid (L16.out.turn hF hG); have O17 := hid (O16.out.keep hF N12.out.2); clear S' hr hF hG)))
     have D17 := hid ((D14.out.drew.keep HF16.out (not_no _)).keep HF17.out N12.out.1)
     clear a0 a1 a2 af r0 r1 r2 HF15 HF16 HF17 S15 S16 L15 L16 O15 O16 SD LD LRD OD S14 L14 O14' D14 P14
     obtain ⟨a0, a1, a2, af⟩ := D17.out.three
     have OO := hid (L17.out.own.keep ((Fr.refl No w17).alloc (.cells #[.int .i64 p1.a, .int .i64 p1.z, .slice A11 p1.b.length c11] 29)) (fun k _ => not_no k))
     go_wp2_with (at_builtin; refine wpl_app _ rfl (.tmp 138) (.tmp 140) 38 rfl 29 _ 3 40 Try.underlying38 infoG rfl (.slice A14 r.length c14) r.length (rows Gr.cells r) rfl OO.out (.slice (some ⟨w17.heap.size, 0, none⟩) 1 1) 1 (Gr.cells ⟨p1.a, p1.z, .slice A11 p1.b.length c11, p1.b⟩) rfl (Rd.lit1 w17 29 #[.int .i64 p1.a, .int .i64 p1.z, .slice A11 p1.b.length c11] 3 rfl) (by intro u hu; simp only [Gr.cells, List.mem_cons, List.not_mem_nil, or_false] at hu; rcases hu with rfl | rfl | rfl <;> rfl) (by simp only [maxLen]; omega) (by omega) ?_; intro v18 w18 o18 f18 g18)
     have FB : Fr (Of (.slice A14 r.length c14)) w17 w18 := ((Fr.refl (Of (.slice A14 r.length c14)) w17).alloc _).trans f18 (fun _ _ h => h)
     have S18 := hid (show StN w w18 g F17 3 ((r ++ [(⟨p1.a, p1.z, .slice A11 p1.b.length c11, p1.b⟩ : Gr)]).map Gr.abs) from by
       rw [List.map_append]
       exact S17.out.keepS FB (fun k hk h => L17.out.sep k h hk) (fun k h => L17.out.new k h))
     have R18 := hid (show Rd 3 w18 v18 (r ++ [(⟨p1.a, p1.z, .slice A11 p1.b.length c11, p1.b⟩ : Gr)]).length (rows Gr.cells (r ++ [⟨p1.a, p1.z, .slice A11 p1.b.length c11, p1.b⟩])) from by
       rw [List.length_append, rows_append, rows_one]
       exact o18.rd)
     have Y18 := hid (show ∀ q ∈ r ++ [(⟨p1.a, p1.z, .slice A11 p1.b.length c11, p1.b⟩ : Gr)], RdB w18 q.v q.b from fun q hq => by
       rcases List.mem_append.1 hq with hq | hq
       · exact (L17.out.data q hq).1.keep S18.out.fr (fun k _ => not_no k)
       · rw [List.mem_singleton.1 hq]
         exact (O17.out.keep FB (own_apart O17.out L17.out.own (by decide))).rd)
     obtain ⟨A18, c18, rfl, hc18, _⟩ := R18.out.slice_
     clear o18 f18 g18 FB OO S17 L17 O17 D17 a0 a1 a2 af
     go_wp2_with fail
     refine (holds_c S18.out.n _ R18.out Y18.out).mono ?_
     rintro e w19 ⟨rfl, F19⟩
     have S19 := hid (S18.out.keep F19)
     clear F19 S18 R18 Y18
     go_wp2_with fail
     refine (awake_c _).mono ?_
     rintro e w20 ⟨rfl, B⟩
     have F20 := hid (S19.out.fr.fresh_no B)
     clear B
     go_wp2_with fail
     go_ret
     exact ⟨rfl, F20.out⟩
end Go.Proofs.Ytjgcibjodiefkaa
