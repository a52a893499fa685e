import Derived.Test.YtjgcibjodiefkaaNetF
import Derived.Test.YtjgcibjodiefkaaNetSpares
/-! NetNumbers: the fixed examples come out. -/
namespace Go.Proofs.Ytjgcibjodiefkaa
open Go.RowKit
set_option linter.unusedVariables false
set_option linter.unusedSimpArgs false

/-- 'make([]byte, n)' behind a guard -/
theorem wpl_makeB_g {P : Program} (w : World) {ops : Array Oper} {rest : List Oper} {o : Oper} {a : Act} {Q : Exit → Act → World → Prop}
    (hg : Region.wanted o (yielded ops a.tmps) = true) (l c : Operand) (t : TypeId) (hop : o.op = Op.makeSlice t l c) (e : TypeId) (h1 : P.underlying t = some (.slice e))
    (hinfo : (P.info? e).map (fun i => (i.zero, i.size, i.bytes)) = some (some (.int .u8 0), 1, 1))
    (kl kc : IntKind) (L C : Int) (n : Nat) (hl : a.eval l = .int kl L) (hc : a.eval c = .int kc C) (hL : L = (n : Int)) (hC : C = (n : Int)) (b2 : n ≤ 281474976710656)
    (hK : ∀ w', Hid (OwnB e w' (.slice (some ⟨w.heap.size, 0, none⟩) n n) (List.replicate n 0)) → Hid (Fr No w w') → wpList P ops Q rest (a.put o.dst (.slice (some ⟨w.heap.size, 0, none⟩) n n)) w') :
    wpList P ops Q (o :: rest) a w := by
  refine wpList_step fun K hK2 => ?_
  rw [if_pos hg]
  obtain ⟨i, hi, hz, hsize, hby⟩ := info_parts hinfo
  obtain ⟨w', hrun, r1, r2⟩ := run_make_full (P := P) w 0 t e i _ 1 h1 hi hz hsize kl kc n (by rw [hby]; omega) (by simp only [maxLen]; omega) (Nat.zero_le _)
  subst hL
  subst hC
  have hO : OwnB e w' (.slice (some ⟨w.heap.size, 0, none⟩) n n) (List.replicate n 0) := by
    have := Own.of_owns r1
    unfold OwnB
    rw [List.length_replicate]
    have hx : bvs (List.replicate n 0) = (madeCells (Value.int IntKind.u8 0).cells (n * 1)).toList := by
      apply List.ext_getElem
      · simp [bvs, madeCells]
      · intro i h1 h2
        simp [bvs, bv, madeCells, Value.cells, Nat.mod_one]
    rw [hx]
    exact this
  have hF : Fr No w w' := (Fr.grown r2).mono (fun k _ h => by cases h)
  unfold Oper.wp
  simp [execOp, hop, hl, hc, hrun, Result.andThen]
  exact hK2 _ _ (hK w' hO hF)

/-- what is on its way behind i - 1 rounds -/
def numL : Nat → List G3
  | 0 => [(15, 15, [97, 98, 99])]
  | i + 1 => numL i ++ [(0, ((i + 1 : Nat) : Int) % 2, [])]
theorem numL_length : ∀ i, (numL i).length = i + 1
  | 0 => rfl
  | i + 1 => by rw [numL, List.length_append, numL_length i]; rfl
theorem numL_one : ∀ i, ((numL i).filter (fun p => p.2.1 != 1)).length = 1 + i / 2
  | 0 => rfl
  | i + 1 => by
    rw [numL, List.filter_append, List.length_append, numL_one i]
    by_cases h : (i + 1) % 2 = 1
    · have e : (((i + 1 : Nat) : Int) % 2 != 1) = false := by simp; omega
      simp only [List.filter_cons, e, List.filter_nil]
      simp
      omega
    · have e : (((i + 1 : Nat) : Int) % 2 != 1) = true := by simp; omega
      simp only [List.filter_cons, e, List.filter_nil]
      simp
      omega
theorem numL_nine : ∀ i, ∀ p ∈ numL i, (p.2.1 != 9) = true
  | 0 => by intro p hp; simp [numL] at hp; subst hp; rfl
  | i + 1 => by
    intro p hp
    rw [numL, List.mem_append] at hp
    rcases hp with hp | hp
    · exact numL_nine i p hp
    · rw [List.mem_singleton.1 hp]
      simp
      omega

set_option maxRecDepth 100000 in
set_option maxHeartbeats 2000000 in
theorem netNumbers_c (w : World) : Calls Try.prog 3 #[] w (RetT w) := by
  have kc := run_convert_const (P := Try.prog) 26 5 Try.underlying26 Try.underlying5
  go_enter Try.func3, Try.ntmps3
  go_wp2_with fail
  refine (new_bad 0 (by omega) _).mono ?_
  rintro e wx ⟨rfl, rfl⟩
  go_wp2_with fail
  refine (new_bad 17 (by omega) _).mono ?_
  rintro e wx ⟨rfl, rfl⟩
  go_wp2_with fail
  refine (new_c 16 (by omega) (by omega) _).mono ?_
  rintro e w1 ⟨g, rfl, I, F, hg⟩
  have S1 := hid (StN.start I F hg)
  clear I F hg
  go_wp2_with fail
  refine (send_c (S1.out.n.keep_no ((Fr.refl No _).alloc _)) 15 15 _ [97, 98, 99] (RdB.lit_ _ _ _ _ _ rfl rfl _ (by first | rfl | simp)) (by simp) ([(15, 15, [97, 98, 99])], 0) rfl).mono ?_
  intro e w2 hr
  have hlen1 := hr.2.2.size
  have hnF : ¬ (fun k => k = g) w1.heap.size := fun e => by have := S1.out.n.lt g rfl; simp only at e; omega
  have kb0 : w2.cell? ⟨w1.heap.size, 0, none⟩ = some (.int .u8 97) := (hr.2.2.cell (by simp) hnF 0).trans ((cell_of_row _ _ 0 _ _ _ (heap_alloc_new w1 _)).trans rfl)
  have kbf : w2.frozen? ⟨w1.heap.size, 0, none⟩ = false := (hr.2.2.frozen (by simp) hnF 0).trans (by unfold World.frozen?; simp only [heap_alloc_new]; rfl)
  obtain ⟨rfl, hI2, hF2⟩ := hr
  have hin : ¬ (More (w1.alloc (.cells #[.int .u8 97, .int .u8 98, .int .u8 99] 5 (3, 4))) w2 (fun k => k = g)) w1.heap.size := by
    rintro (e | h)
    · exact hnF e
    · have := h.1; simp at this; omega
  have S2 := hid (show StN wx w2 g (More (w1.alloc (.cells #[.int .u8 97, .int .u8 98, .int .u8 99] 5 (3, 4))) w2 (fun k => k = g)) 16 [(15, 15, [97, 98, 99])] from
    ⟨hI2, (S1.out.fr.alloc _).fresh hF2 S1.out.new, fun k hk => by rcases hk with h | h; exact S1.out.new k h; have := h.1; have := S1.out.fr.size; simp at *; omega⟩)
  have HIN := hid (⟨hin, S1.out.fr.size⟩ : _ ∧ wx.heap.size ≤ w1.heap.size)
  generalize hFF : More (w1.alloc (.cells #[.int .u8 97, .int .u8 98, .int .u8 99] 5 (3, 4))) w2 (fun k => k = g) = F at S2 HIN
  clear hI2 hF2 hnF hin hFF hlen1
  go_wp2_with fail
  have S3 := hid (S2.out.keepS (w1 := w2.setCell ⟨w1.heap.size, 0, none⟩ (.int .u8 120)) (Fr.setCell (S := fun k => k = w1.heap.size) (Fr.refl _ w2) (fun _ => rfl) _) (fun k hk e => HIN.out.1 (e ▸ hk)) (fun k e => by rw [e]; exact HIN.out.2))
  clear kb0 kbf HIN
  refine (look_c S3.out.n 0 ((15, 15, [97, 98, 99]), true) rfl).mono ?_
  rintro e w4 ⟨v4, rfl, O4, F4, G4⟩
  replace O4 : OwnB 5 w4 v4 [97, 98, 99] := O4
  obtain ⟨g4, cap4, rfl, hcap4, hg4⟩ := O4.form (by simp)
  have hF4 := F4.alloc (.cells #[.int .i64 15, .int .i64 15, .slice (some ⟨g4, 0, none⟩) 3 cap4] 29)
  have S4 := hid (S3.out.keep hF4)
  have O4' := hid (O4.alloc (.cells #[.int .i64 15, .int .i64 15, .slice (some ⟨g4, 0, none⟩) 3 cap4] 29))
  have N4 := hid (show ¬ F g4 ∧ wx.heap.size ≤ g4 from by
    have h1 := (G4 g4 (Of_some.2 rfl)).resolve_left (not_no _)
    exact ⟨fun h => by have := S3.out.n.lt _ h; omega, Nat.le_trans S3.out.fr.size h1⟩)
  have k4 := O4'.out.cell (i := 1) (b := 98) rfl
  have kf4 := O4'.out.frozen rfl
  have n4 : ¬ g4 = w4.heap.size := by omega
  have n4' : ¬ w4.heap.size = g4 := by omega
  clear O4 F4 G4 hF4 S2 S3 hg4
  go_wp2_with fail
  have S5 := hid (S4.out.keepS (w1 := (w4.alloc (.cells #[.int .i64 15, .int .i64 15, .slice (some ⟨g4, 0, none⟩) 3 cap4] 29)).setCell ⟨g4, 1, none⟩ (.int .u8 120)) (Fr.setCell (S := fun k => k = g4) (Fr.refl _ _) (fun _ => rfl) _) (fun k hk e => N4.out.1 (e ▸ hk)) (fun k e => by rw [e]; exact N4.out.2))
  clear k4 kf4 N4 S4 O4' n4 n4'
  refine (look_c S5.out.n 0 ((15, 15, [97, 98, 99]), true) rfl).mono ?_
  rintro e w6 ⟨v6, rfl, O6, F6, G6⟩
  replace O6 : OwnB 5 w6 v6 [97, 98, 99] := O6
  obtain ⟨A6, c6, rfl, hc6⟩ := O6.slice
  have hF6 := F6.alloc (.cells #[.int .i64 15, .int .i64 15, .slice A6 3 c6] 29)
  have S6 := hid (S5.out.keep hF6)
  have O6' := O6.alloc (.cells #[.int .i64 15, .int .i64 15, .slice A6 3 c6] 29)
  have k6 : (convert 26 9 (.slice A6 3 c6)).run Try.prog (w6.alloc (.cells #[.int .i64 15, .int .i64 15, .slice A6 3 c6] 29)) = .ok (.string ⟨#[97, 98, 99]⟩) (w6.alloc (.cells #[.int .i64 15, .int .i64 15, .slice A6 3 c6] 29)) :=
    run_convert_bytes (P := Try.prog) _ 26 5 Try.underlying26 Try.underlying5 _ [97, 98, 99] O6'.rd 9 Try.underlying9
  clear O6 F6 G6 hF6 S5 O6'
  go_wp2_with fail
  refine (send_c S6.out.n 16 0 _ [] (RdB.nil _) (by simp) ([(15, 15, [97, 98, 99])], 2) rfl).mono ?_
  intro e w7 hr
  obtain ⟨F7, rfl, S', -, -⟩ := S6.out.send' (Fr.refl No _) hr
  have S7 := hid (show StN wx w7 g F7 16 [(15, 15, [97, 98, 99])] from S')
  clear S' hr k6 S6
  go_wp2_with fail
  refine (send_c S7.out.n 0 (-1) _ [] (RdB.nil _) (by simp) ([(15, 15, [97, 98, 99])], 2) rfl).mono ?_
  intro e w8 hr
  obtain ⟨F8, rfl, S', -, -⟩ := S7.out.send' (Fr.refl No _) hr
  have S8 := hid (show StN wx w8 g F8 16 [(15, 15, [97, 98, 99])] from S')
  clear S' hr S7
  go_wp2_with (refine wpl_makeB_g _ (by rfl) _ _ 26 rfl 5 Try.underlying26 infoU8 _ _ _ _ 1048641 rfl rfl (by decide) (by decide) (by omega) ?_; intro w9 O9 F9)
  have hbig : (List.replicate 1048641 (0 : UInt8)).length = 1048641 := List.length_replicate
  generalize List.replicate 1048641 (0 : UInt8) = big at O9 hbig
  have HBIG := hid hbig
  clear hbig
  refine (send_c (S8.out.n.keep_no F9.out) 0 0 _ big O9.out.rd (by have := HBIG.out; omega) ([(15, 15, [97, 98, 99])], 3) (by unfold sendL; rw [if_neg (by simp), if_pos (by have := HBIG.out; omega)])).mono ?_
  intro e w10 hr
  obtain ⟨F10, rfl, S', -, -⟩ := S8.out.send' F9.out hr
  have S10 := hid (show StN wx w10 g F10 16 [(15, 15, [97, 98, 99])] from S')
  clear S' hr S8 O9 F9 HBIG
  go_wp2_with (refine wpl_makeB_g _ (by rfl) _ _ 26 rfl 5 Try.underlying26 infoU8 _ _ _ _ 1048640 rfl rfl (by decide) (by decide) (by omega) ?_; intro w11 O11 F11)
  have hbig : (List.replicate 1048640 (0 : UInt8)).length = 1048640 := List.length_replicate
  generalize List.replicate 1048640 (0 : UInt8) = bigb at O11 hbig
  have HBIG := hid hbig
  clear hbig
  refine (send_c (S10.out.n.keep_no F11.out) 0 0 _ bigb O11.out.rd (by have := HBIG.out; omega) ([(15, 15, [97, 98, 99]), (0, 0, bigb)], 0) (send_ok (L := [(15, 15, [97, 98, 99])]) (by omega) (by omega) (by have := HBIG.out; omega) (by simp))).mono ?_
  intro e w12 hr
  obtain ⟨F12, rfl, S', -, -⟩ := S10.out.send' F11.out hr
  have S12 := hid (show StN wx w12 g F12 16 [(15, 15, [97, 98, 99]), (0, 0, bigb)] from S')
  clear S' hr S10 O11 F11 HBIG
  go_wp2_with fail
  refine (ncopy_c S12.out.n 2 ([(15, 15, [97, 98, 99]), (0, 0, bigb)], 2) rfl).mono ?_
  intro e w13 hr
  obtain ⟨F13, rfl, S', -, -⟩ := S12.out.send' (Fr.refl No _) hr
  have S13 := hid (show StN wx w13 g F13 16 [(15, 15, [97, 98, 99]), (0, 0, bigb)] from S')
  clear S' hr S12
  go_wp2_with fail
  refine (ncopy_c S13.out.n (-1) ([(15, 15, [97, 98, 99]), (0, 0, bigb)], 2) rfl).mono ?_
  intro e w14 hr
  obtain ⟨F14, rfl, S', -, -⟩ := S13.out.send' (Fr.refl No _) hr
  have S14 := hid (show StN wx w14 g F14 16 [(15, 15, [97, 98, 99]), (0, 0, bigb)] from S')
  clear S' hr S13
  go_wp2_with fail
  refine (drop_c S14.out.n 2 false rfl [(15, 15, [97, 98, 99]), (0, 0, bigb)] rfl).mono ?_
  rintro e w15 ⟨rfl, I15, F15⟩
  have S15 := hid (S14.out.same I15 F15)
  clear I15 F15 S14
  go_wp2_with fail
  refine (drop_c S15.out.n 1 true rfl [(15, 15, [97, 98, 99])] rfl).mono ?_
  rintro e w16 ⟨rfl, I16, F16⟩
  have S16 := hid (show StN wx w16 g F14 16 (numL 0) from S15.out.same I16 F16)
  clear I16 F16 S15
  go_wp2_with fail
  go_loopg [14] 4095 (fun q v14 w' => ∃ (i : Nat) (F : Nat → Prop), v14 = .int .i64 i ∧ 1 ≤ i ∧ i ≤ 4096 ∧ q = 4096 - i ∧ Hid (StN wx w' g F 16 (numL (i - 1))))
  case atStart => exact ⟨1, F14, rfl, by omega, by omega, rfl, S16⟩
  case round =>
    clear S16
    obtain ⟨i, F, rfl, hi1, hi, hq, HS⟩ := hrel
    have HQ := hid hq
    clear hq
    by_cases d1 : i < 4096
    · have d2 : (i : Int) < 4096 := by omega
      have ht : (i : Int).tmod 2 = (i : Int) % 2 := Int.tmod_eq_emod_of_nonneg (by omega)
      go_wp2_with fail
      refine (send_c HS.out.n 0 ((i : Int) % 2) _ [] (RdB.nil _) (by simp) (numL (i - 1) ++ [(0, (i : Int) % 2, [])], 0) (send_ok (by omega) (by omega) (by simp) (by rw [numL_length]; omega))).mono ?_
      intro e w17 hr
      obtain ⟨F17, rfl, S', -, -⟩ := HS.out.send' (Fr.refl No _) hr
      have hn : numL (i - 1) ++ [(0, (i : Int) % 2, [])] = numL i := by
        obtain ⟨j, rfl⟩ : ∃ j, i = j + 1 := ⟨i - 1, by omega⟩
        rfl
      have S17 := hid (show StN wx w17 g F17 16 (numL i) from by rw [← hn]; exact S')
      clear S' hr HS hn
      go_wp2_with fail
      go_roundg (4096 - (i + 1))
      case measure => have := HQ.out; omega
      case rel => exact ⟨i + 1, F17, by go_num, by omega, by omega, rfl, by rw [Nat.add_sub_cancel]; exact S17⟩
    · have hi2 : i = 4096 := by omega
      subst hi2
      clear d1
      have hlen := numL_length 4095
      have HLEN := hid hlen
      have HOKS := hid (show ∀ p ∈ numL 4095, (0 ≤ p.1 ∧ p.1 < 16) ∧ (0 ≤ p.2.1 ∧ p.2.1 < 16) ∧ p.2.2.length ≤ 1048640 from HS.out.n.ok)
      have H1 := hid (numL_one 4095)
      have H9 := hid (numL_nine 4095)
      have S16 := hid (show StN wx wr g F 16 (numL 4095) from HS.out)
      clear HS hlen
      generalize numL 4095 = L at HLEN HOKS H1 H9 S16
      go_wp2_with fail
      refine (send_c S16.out.n 0 0 _ [] (RdB.nil _) (by simp) (L, 5) (by unfold sendL; rw [if_neg (by simp), if_neg (by simp), if_pos (by have := HLEN.out; omega)])).mono ?_
      intro e w17 hr
      obtain ⟨F17, rfl, S', -, -⟩ := S16.out.send' (Fr.refl No _) hr
      have S17 := hid (show StN wx w17 g F17 16 L from S')
      clear S' hr S16
      go_wp2_with fail
      refine (ncopy_c S17.out.n 0 (L, 5) (by
        have h0 : 0 < L.length := by have := HLEN.out; omega
        have hz : L[0]? = some L[0] := by simp [h0]
        have hk := HOKS.out _ (List.getElem_mem h0)
        have hl := look_ok (i := 0) hz
        unfold copyL
        rw [show ((0 : Int)) = ((0 : Nat) : Int) from rfl, hl]
        simp only [if_true]
        unfold sendL
        rw [if_neg (by simp [hk]), if_neg (by omega), if_pos (by have := HLEN.out; omega)])).mono ?_
      intro e w18 hr
      obtain ⟨F18, rfl, S', -, -⟩ := S17.out.send' (Fr.refl No _) hr
      have S18 := hid (show StN wx w18 g F18 16 L from S')
      clear S' hr S17
      go_wp2_with fail
      obtain ⟨L1, hL1⟩ : ∃ L1, forgetL L 1 = L1 := ⟨_, rfl⟩
      have h1l : L1.length = 2048 := by rw [← hL1]; exact H1.out
      refine (forget_c S18.out.n 1 L1 hL1).mono ?_
      have HL1 := hid hL1
      rintro e w19 ⟨rfl, I19, F19⟩
      have S19 := hid (S18.out.same I19 F19)
      have hd : ((L.length : Int) - L1.length) = 2048 := by have := HLEN.out; omega
      rw [hd]
      have H1L := hid h1l
      clear I19 F19 S18 hd h1l hL1
      go_wp2_with fail
      have h9 : forgetL L1 9 = L1 := by
        unfold forgetL
        rw [List.filter_eq_self]
        intro p hp
        rw [← HL1.out] at hp
        exact H9.out p (List.mem_filter.1 hp).1
      refine (forget_c S19.out.n 9 L1 h9).mono ?_
      rintro e w20 ⟨rfl, I20, F20⟩
      have S20 := hid (S19.out.same I20 F20)
      rw [Int.sub_self]
      clear I20 F20 S19 h9
      go_wp2_with fail
      refine (flying_c S20.out.n).mono ?_
      rintro e wy ⟨rfl, rfl⟩
      rw [H1L.out]
      go_wp2_with fail
      refine (awake_c _).mono ?_
      rintro e w22 ⟨rfl, B⟩
      have F22 := hid (S20.out.fr.fresh_no B)
      clear B
      go_wp2_with fail
      go_ret
      exact ⟨rfl, F22.out⟩
end Go.Proofs.Ytjgcibjodiefkaa
