import Derived.Test.YtkglndlmjleomaaWaitA
import Derived.Test.YtkglndlmjleomaaMem
/-! (*Boxes).All. -/
namespace Go.Proofs.Ytkglndlmjleomaa
open Go.RowKit
set_option linter.unusedVariables false
set_option linter.unusedSimpArgs false

theorem cellsOf_rows (l : List MailA) : cellsOf l = rows (fun m : MailA => m.cells.toList) l := by
  induction l with
  | nil => rfl
  | cons a l ih => show a.cells.toList ++ cellsOf l = _; rw [ih, rows_cons]
theorem mail_len (m : MailA) : m.cells.toList.length = 6 := rfl
theorem mail_at {w : World} {A : Option Addr} {n c : Nat} {l : List MailA} (h : Own 30 6 w (.slice A n c) l.length (cellsOf l)) {i : Nat} {m : MailA} (hm : l[i]? = some m) :
    ∃ ga, A = some ⟨ga, 0, none⟩ ∧ n = l.length ∧ n ≤ c ∧ w.cell? ⟨ga, i * 6, none⟩ = some (.int .i64 m.from_) ∧ w.cell? ⟨ga, i * 6 + 1, none⟩ = some (.int .i64 m.seq) ∧ w.cell? ⟨ga, i * 6 + 2, none⟩ = some (.int .i64 m.by_) ∧ w.cell? ⟨ga, i * 6 + 3, none⟩ = some (.int .i64 m.to) ∧ w.cell? ⟨ga, i * 6 + 4, none⟩ = some (.string m.tag) ∧ w.cell? ⟨ga, i * 6 + 5, none⟩ = some (.slice none 0 0) := by
  have hi : i < l.length := by
    rcases Nat.lt_or_ge i l.length with h | h
    · exact h
    · rw [List.getElem?_eq_none h] at hm; cases hm
  rcases h.2 with ⟨_, h0⟩ | ⟨ga, cap, cur, hv, _, hnc, _⟩
  · omega
  · injection hv with hA hn hcc
    subst hA hn hcc
    have hc : ∀ j u, (cellsOf l)[j]? = some u → w.cell? ⟨ga, j, none⟩ = some u := fun j u hu => h.cells (g := ga) rfl j u hu
    have hr := fun j hj => rows_get (c := fun m : MailA => m.cells.toList) (s := 6) mail_len hm j hj
    rw [cellsOf_rows] at hc
    refine ⟨ga, rfl, rfl, hnc, hc _ _ ((hr 0 (by omega)).trans rfl), hc _ _ ((hr 1 (by omega)).trans rfl), hc _ _ ((hr 2 (by omega)).trans rfl), hc _ _ ((hr 3 (by omega)).trans rfl), hc _ _ ((hr 4 (by omega)).trans rfl), hc _ _ ((hr 5 (by omega)).trans rfl)⟩
theorem int_at {w : World} {A : Option Addr} {n c : Nat} {l : List Int} (h : Own 2 1 w (.slice A n c) l.length (ints l)) {i : Nat} {z : Int} (hm : l[i]? = some z) :
    ∃ ga, A = some ⟨ga, 0, none⟩ ∧ n = l.length ∧ n ≤ c ∧ w.cell? ⟨ga, i, none⟩ = some (.int .i64 z) := by
  have hi : i < l.length := by
    rcases Nat.lt_or_ge i l.length with h | h
    · exact h
    · rw [List.getElem?_eq_none h] at hm; cases hm
  rcases h.2 with ⟨_, h0⟩ | ⟨ga, cap, cur, hv, _, hnc, _⟩
  · omega
  · injection hv with hA hn hcc
    subst hA hn hcc
    refine ⟨ga, rfl, rfl, hnc, h.cells (g := ga) rfl i _ ?_⟩
    unfold ints
    rw [List.getElem?_map, hm]
    rfl
def allOf (K : List Int) (f : Int → List MailA) : List MailA := K.flatMap f
theorem allOf_len {f : Int → List MailA} {B : Nat} (hf : ∀ k, (f k).length ≤ B) : ∀ K : List Int, (allOf K f).length ≤ K.length * B
  | [] => Nat.zero_le _
  | k :: K => by
    have h := allOf_len hf K
    have h2 := hf k
    show ((f k) ++ allOf K f).length ≤ (K.length + 1) * B
    rw [List.length_append, Nat.add_mul]
    omega
theorem allOf_take {f : Int → List MailA} {K : List Int} {i : Nat} {k : Int} (h : K[i]? = some k) : allOf (K.take (i + 1)) f = allOf (K.take i) f ++ f k := by
  unfold allOf
  rw [List.take_add_one, h, List.flatMap_append]
  simp
structure Al (w1 w : World) (v : Value) (L : List MailA) : Prop where
  out : Own 30 6 w v L.length (cellsOf L)
  new : ∀ x, Of v x → w1.heap.size ≤ x
  fr : Fr No w1 w
set_option maxRecDepth 100000 in
set_option maxHeartbeats 4000000 in
theorem all_c {w : World} {g b : Nat} {n : Int} {ms : List (Int × Value)} {f : Int → List MailA} (h : IsBox w g b n ms f) (hml : ms.length ≤ 1000) (hfl : ∀ k, (f k).length ≤ 1000) :
    Calls Try.prog 18 #[.pointer (some ⟨g, 0, none⟩)] w fun e w' =>
      ∃ v', e = .returned v' ∧ Own 30 6 w' v' (allOf (sorted (ms.map (·.1))) f).length (cellsOf (allOf (sorted (ms.map (·.1))) f)) ∧ Fr No w w' ∧ ∀ x, Of v' x → w.heap.size ≤ x := by
  have H := hid h
  have HFL := hid hfl
  have hkl : (sorted (ms.map (·.1))).length ≤ 1000 := by simp [sorted]; omega
  have HWA := hid (waiting_c h.blk h.map (by omega))
  generalize sorted (ms.map (·.1)) = K at HWA hkl ⊢
  have HKL := hid hkl
  clear h hfl hml
  go_enter Try.func18, Try.ntmps18
  go_wp2_with fail
  refine HWA.out.mono ?_
  rintro e w1 ⟨vK, rfl, oK, f1, n1⟩
  have HK := hid oK
  have HF1 := hid f1
  have H1 := hid (H.out.keep f1)
  obtain ⟨AK, cK, rfl, hcK, _⟩ := oK.slice
  clear oK f1 n1 H HWA
  go_wp2_with fail
  go_loopg [3, 11] K.length (fun q v3 v11 w' => ∃ i : Nat, v11 = .int .i64 i ∧ i ≤ K.length ∧ q = K.length - i ∧ Hid (Al w1 w' v3 (allOf (K.take i) f)))
  case atStart => exact ⟨0, rfl, Nat.zero_le _, rfl, ⟨Own.nil _ _ _, fun x hx => absurd hx Of_none, Fr.refl No w1⟩⟩
  case round =>
    obtain ⟨i, rfl, hi, hq, HA⟩ := hrel
    have HQ := hid hq
    clear hq
    by_cases d1 : i < K.length
    · have d2 : (i : Int) < K.length := by omega
      have hk : K[i]? = some K[i] := List.getElem?_eq_getElem d1
      generalize K[i] = k at hk
      have HKI := hid hk
      have hfk := HFL.out k
      obtain ⟨gk, rfl, _, _, hcell⟩ := int_at (HK.out.keep HA.out.fr (fun x _ => not_no x)) hk
      obtain ⟨Ar, cr, hrow, hcr, _⟩ := (H1.out.row k).slice
      have hl := look_eq (H1.out.keep HA.out.fr).map k
      rw [hrow] at hl
      have HROW := hid hrow
      obtain ⟨g0, g1, gf⟩ := (H1.out.keep HA.out.fr).blk.pair
      clear hk hrow
      go_wp2_with fail
      go_loopg [3, 22] (f k).length (fun q v3 v22 w' => ∃ j : Nat, v22 = .int .i64 j ∧ j ≤ (f k).length ∧ q = (f k).length - j ∧ Hid (Al w1 w' v3 (allOf (K.take i) f ++ (f k).take j)))
      case atStart => exact ⟨0, rfl, Nat.zero_le _, rfl, by rw [List.take_zero, List.append_nil]; exact HA⟩
      case round =>
        clear HA hcell hl g0 g1 gf
        obtain ⟨j, rfl, hj, hq, HA⟩ := hrel
        have HQ2 := hid hq
        clear hq
        by_cases d3 : j < (f k).length
        · have d4 : (j : Int) < (f k).length := by omega
          have hm : (f k)[j]? = some (f k)[j] := List.getElem?_eq_getElem d3
          generalize (f k)[j] = m at hm
          have HM := hid hm
          have hrk := (H1.out.row k).keep HA.out.fr (fun x _ => not_no x)
          rw [HROW.out] at hrk
          obtain ⟨gr, rfl, _, _, m0, m1, m2, m3, m4, m5⟩ := mail_at hrk hm
          obtain ⟨a, by0, c, d, t⟩ := m
          dsimp only at m0 m1 m2 m3 m4 m5
          have HLN := hid (show (allOf (K.take i) f ++ (f k).take j).length ≤ 2000000 by
            have h1 := allOf_len HFL.out (K.take i)
            have h2 : (K.take i).length ≤ 1000 := by rw [List.length_take]; have := HKL.out; omega
            have h3 := HFL.out k
            rw [List.length_append, List.length_take]
            have h4 : (K.take i).length * 1000 ≤ 1000 * 1000 := Nat.mul_le_mul_right _ h2
            omega)
          generalize hLL : allOf (K.take i) f ++ (f k).take j = L at HA HLN
          have HLL := hid hLL
          clear hm hrk hLL
          obtain ⟨A3, c3, rfl, hc3, _⟩ := HA.out.out.slice
          go_wp2_with fail
          refine (copied_nil _ ⟨a, by0, c, d, t⟩).mono ?_
          rintro e w5 ⟨rfl, f5⟩
          have FX := hid (((Fr.refl No wr).alloc (.cells #[.int .i64 a, .int .i64 by0, .int .i64 c, .int .i64 d, .string t, .slice none 0 0] 30)).fresh_no f5)
          have HR := hid (Rd.mail w5 ⟨a, by0, c, d, t⟩)
          have HO5 := hid ((HA.out.out.keep FX.out (fun x _ => not_no x)).keep ((Fr.refl No w5).alloc (.cells #[.int .i64 a, .int .i64 by0, .int .i64 c, .int .i64 d, .string t, .slice none 0 0] 30)) (fun x _ => not_no x))
          have HF5 := hid ((HA.out.fr.fresh_no FX.out).alloc (.cells #[.int .i64 a, .int .i64 by0, .int .i64 c, .int .i64 d, .string t, .slice none 0 0] 30))
          have HNW := hid HA.out.new
          clear f5 HA m0 m1 m2 m3 m4 m5
          unfold MailA.cells
          dsimp only
          go_wp2_with (at_builtin; refine wpl_app _ rfl (.tmp 26) (.tmp 29) _ rfl 30 mail0 6 72 Try.underlying39 infoM (by rfl) _ L.length (cellsOf L) rfl HO5.out _ 1 _ rfl HR.out (mail_one _) (by have := HLN.out; simp only [maxLen]; omega) (by have := HLN.out; omega) ?_; intro v9 w9 o9 f9 g9)
          have HA9 := hid (show Al w1 w9 v9 (L ++ [⟨a, by0, c, d, t⟩]) from ⟨by
            rw [cellsOf_snoc, List.length_append, List.length_singleton]; exact o9, fun x hx => (g9 x hx).elim (fun h => HNW.out x h) (fun h => by rw [h]; exact HF5.out.size), HF5.out.fresh f9 (fun x hx => HNW.out x hx)⟩)
          clear o9 f9 g9
          go_wp2_with fail
          go_roundg ((f k).length - (j + 1))
          case measure => have := HQ2.out; omega
          case rel =>
            refine ⟨j + 1, by go_num, by omega, rfl, ?_⟩
            rw [List.take_add_one, HM.out, ← List.append_assoc, HLL.out]
            exact HA9
        · have d4 : ¬ (j : Int) < (f k).length := by omega
          have he : j = (f k).length := by omega
          subst he
          rw [List.take_length, ← allOf_take HKI.out] at HA
          go_wp2_with fail
          go_roundg (K.length - (i + 1))
          case measure => have := HQ.out; omega
          case rel => exact ⟨i + 1, by go_num, by omega, rfl, HA⟩
    · have d2 : ¬ (i : Int) < K.length := by omega
      have he : i = K.length := by omega
      subst he
      rw [List.take_length] at HA
      go_wp2_with fail
      go_ret
      exact ⟨_, rfl, HA.out.out, HF1.out.fresh_no HA.out.fr, fun x hx => Nat.le_trans HF1.out.size (HA.out.new x hx)⟩
end Go.Proofs.Ytkglndlmjleomaa
