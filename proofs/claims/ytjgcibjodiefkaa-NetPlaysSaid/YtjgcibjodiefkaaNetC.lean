import Derived.Test.YtjgcibjodiefkaaNetB
/-! The contracts of package net: Forget. -/
namespace Go.Proofs.Ytjgcibjodiefkaa
open Go.RowKit
set_option linter.unusedVariables false
set_option linter.unusedSimpArgs false

set_option maxRecDepth 100000 in
set_option maxHeartbeats 1000000 in
theorem pred_c (w : World) (a z : Int) (A : Option Addr) (n c : Nat) (pb : Nat) (node : Int) (hp : w.cell? ⟨pb, 0, none⟩ = some (.int .i64 node)) :
    Calls Try.prog 34 #[.agg #[.int .i64 a, .int .i64 z, .slice A n c], .pointer (some ⟨pb, 0, none⟩)] w fun e w' => e = .returned (.bool (z == node)) ∧ Fr No w w' := by
  have k0 : (w.alloc (.cells #[.int .i64 a, .int .i64 z, .slice A n c] 29)).cell? ⟨pb, 0, none⟩ = some (.int .i64 node) := Lib.cell?_alloc_some _ hp
  go_enter Try.func34, Try.ntmps34
  go_wp2
  go_ret
  exact ⟨rfl, (Fr.refl No w).alloc _⟩

/-- the i-th element of a row of datagrams -/
theorem gram_at {w : World} {b n c : Nat} {m : List Gr} (h : Own 29 3 w (.slice (some ⟨b, 0, none⟩) n c) n (rows Gr.cells m)) {i : Nat} {p : Gr} (hp : m[i]? = some p) :
    w.cell? ⟨b, i * 3, none⟩ = some (.int .i64 p.a) ∧ w.cell? ⟨b, i * 3 + 1, none⟩ = some (.int .i64 p.z) ∧ w.cell? ⟨b, i * 3 + 2, none⟩ = some p.v :=
  ⟨Own.cells h (g := b) rfl _ _ (rows_get Gr.cells_length hp 0 (by omega)), Own.cells h (g := b) rfl _ _ (rows_get Gr.cells_length hp 1 (by omega)), Own.cells h (g := b) rfl _ _ (rows_get Gr.cells_length hp 2 (by omega))⟩

def Isl (p : Gr) : Prop := ∃ A n c, p.v = .slice A n c

set_option maxRecDepth 100000 in
set_option maxHeartbeats 1000000 in
theorem index_c {w : World} {b n c : Nat} {l : List Gr} (h : Own 29 3 w (.slice (some ⟨b, 0, none⟩) n c) n (rows Gr.cells l)) (hn : l.length = n) (hn2 : n ≤ 4096) (hs : ∀ p ∈ l, Isl p) (pb : Nat) (node : Int) (hp : w.cell? ⟨pb, 0, none⟩ = some (.int .i64 node)) (hpl : pb < w.heap.size) :
    Calls Try.prog 37 #[.slice (some ⟨b, 0, none⟩) n c, .func (.func 34) #[] #[.pointer (some ⟨pb, 0, none⟩)]] w fun e w' =>
      ∃ k : Int, e = .returned (.int .i64 k) ∧ Fr No w w' ∧ ((k = -1 ∧ ∀ p ∈ l, p.z ≠ node) ∨ ∃ i : Nat, k = i ∧ i < n ∧ (∀ p ∈ l.take i, p.z ≠ node) ∧ ∃ p, l[i]? = some p ∧ p.z = node) := by
  have H := hid h
  have HN := hid hn
  have HP := hid hp
  have HS := hid hs
  have HPL := hid hpl
  clear h hn hp hs hpl
  go_enter Try.func37, Try.ntmps37
  go_wp2_with fail
  go_loopg [8] n (fun q v8 w' => ∃ i : Nat, v8 = .int .i64 i ∧ i ≤ n ∧ q = n - i ∧ Hid (Fr No w w') ∧ Hid (∀ p ∈ l.take i, p.z ≠ node))
  case atStart => exact ⟨0, rfl, by omega, rfl, Fr.refl No _, by simp [Hid]⟩
  case round =>
    obtain ⟨i, rfl, hi, hq, HF, HA⟩ := hrel
    have HQ := hid hq
    clear hq
    by_cases c1 : i < n
    · obtain ⟨p, hp⟩ : ∃ p, l[i]? = some p := by have := HN.out; exact ⟨l[i]'(by omega), by simp [HN.out, c1]⟩
      obtain ⟨A, n', c', hpv⟩ := HS.out p (List.mem_of_getElem? hp)
      obtain ⟨k0, k1, k2⟩ := gram_at (H.out.keep HF.out (fun k _ => not_no k)) hp
      rw [hpv] at k2
      obtain ⟨_, _, hnc, hcm, _, _⟩ := H.out.cur
      have HPP := hid hp
      clear hp hpv
      go_wp2_with fail
      refine (pred_c wr p.a p.z A n' c' pb node ((HF.out.cell HPL.out (not_no _) 0).trans HP.out)).mono ?_
      rintro e w2 ⟨rfl, F2⟩
      have HF2 := hid F2
      clear F2 k0 k1 k2
      by_cases c2 : p.z = node
      · have d2 : (p.z == node) = true := by simpa using c2
        have HC2 := hid c2
        clear c2
        go_wp2_with fail
        go_ret
        exact ⟨_, rfl, HF.out.fresh_no HF2.out, .inr ⟨i, rfl, c1, HA.out, p, HPP.out, HC2.out⟩⟩
      · have d2 : (p.z == node) = false := by simpa using c2
        have HC2 := hid c2
        clear c2
        go_wp2_with fail
        go_roundg (n - (i + 1))
        case measure => have := HQ.out; omega
        case rel =>
          refine ⟨i + 1, by go_num, by omega, rfl, HF.out.fresh_no HF2.out, ?_⟩
          intro q hq
          rw [List.take_add_one, HPP.out] at hq
          simp only [Option.toList_some, List.mem_append, List.mem_singleton] at hq
          rcases hq with hq | rfl
          · exact HA.out q hq
          · exact HC2.out
    · have hin : i = n := by omega
      subst hin
      go_wp2_with fail
      go_ret
      exact ⟨_, rfl, HF.out, .inl ⟨rfl, fun q hq => HA.out q (by rw [← HN.out, List.take_length]; exact hq)⟩⟩

theorem rows_set (p : Gr) : ∀ (m : List Gr) (i : Nat), (((rows Gr.cells m).set (i * 3) (.int .i64 p.a)).set (i * 3 + 1) (.int .i64 p.z)).set (i * 3 + 2) p.v = rows Gr.cells (m.set i p)
  | [], i => by simp [rows]
  | x :: m, 0 => by simp [rows, Gr.cells]
  | x :: m, i + 1 => by
    have e : (i + 1) * 3 = i * 3 + 1 + 1 + 1 := by omega
    rw [List.set_cons_succ, rows_cons, rows_cons, e]
    simp only [Gr.cells, List.cons_append, List.nil_append, List.set_cons_succ]
    rw [rows_set p m i]

/-- those not to a node -/
def left (l : List Gr) (node : Int) : List Gr := l.filter (fun p => p.z != node)

set_option maxRecDepth 100000 in
set_option maxHeartbeats 2000000 in
theorem deleteFunc_c {w : World} {b n c : Nat} {l : List Gr} (h : Own 29 3 w (.slice (some ⟨b, 0, none⟩) n c) n (rows Gr.cells l)) (hn : l.length = n) (hn2 : n ≤ 4096) (hs : ∀ p ∈ l, Isl p) (pb : Nat) (node : Int) (hp : w.cell? ⟨pb, 0, none⟩ = some (.int .i64 node)) (hpl : pb < w.heap.size) (hpb : pb ≠ b) :
    Calls Try.prog 33 #[.slice (some ⟨b, 0, none⟩) n c, .func (.func 34) #[] #[.pointer (some ⟨pb, 0, none⟩)]] w fun e w' =>
      e = .returned (.slice (some ⟨b, 0, none⟩) (left l node).length c) ∧ Own 29 3 w' (.slice (some ⟨b, 0, none⟩) (left l node).length c) (left l node).length (rows Gr.cells (left l node)) ∧ Fr (fun k => k = b) w w' := by
  have H := hid h
  have HN := hid hn
  have HP := hid hp
  have HS := hid hs
  have HPL := hid hpl
  have HPB := hid hpb
  obtain ⟨_, _, hnc, hcm, _, _⟩ := h.cur
  have hcm' : c ≤ 9223372036854775807 := by simp only [maxLen] at hcm; omega
  clear h hn hp hs hpl hpb
  go_enter Try.func33, Try.ntmps33
  go_wp2_with fail
  refine (index_c H.out HN.out hn2 HS.out pb node HP.out HPL.out).mono ?_
  rintro e w1 ⟨k, rfl, F1, hk⟩
  rcases hk with ⟨rfl, hall⟩ | ⟨i0, rfl, hi0, hall, p0, hp0, hz0⟩
  · have hl : left l node = l := by
      unfold left
      rw [List.filter_eq_self]
      intro p hp
      simpa using hall p hp
    have HL := hid hl
    have HF1 := hid F1
    clear hall hl F1
    go_wp2_with fail
    go_ret
    rw [HL.out, HN.out]
    exact ⟨rfl, H.out.keep HF1.out (fun k _ => not_no k), HF1.out.mono (fun k _ h => absurd h (not_no k))⟩
  · have HF1 := hid F1
    have hw : IntKind.i64.wrap ((i0 : Int) + 1) = ((i0 + 1 : Nat) : Int) := by rw [IntKind.wrap_i64]; omega
    have HX := hid (show left (l.take (i0 + 1)) node = l.take i0 by
      unfold left
      rw [List.take_add_one, hp0]
      simp only [Option.toList_some, List.filter_append]
      rw [List.filter_eq_self.2 (fun p hp => by simpa using hall p hp)]
      simp [hz0])
    have hne : ((i0 : Int) == -1) = false := by rw [beq_eq_false_iff_ne]; omega
    clear F1 hall hp0 hz0
    go_wp2_with fail
    go_loopg [5, 6] (n - (i0 + 1)) (fun q v5 v6 w' => ∃ (i j : Nat) (m : List Gr), v5 = .int .i64 i ∧ v6 = .int .i64 j ∧ i < j ∧ j ≤ n ∧ q = n - j ∧ Hid (m.length = n) ∧ Hid (m.take i = left (l.take j) node) ∧ Hid (m.drop j = l.drop j) ∧ Hid (∀ p ∈ m, p ∈ l) ∧
      Hid (Own 29 3 w' (.slice (some ⟨b, 0, none⟩) n c) n (rows Gr.cells m)) ∧ Hid (Fr (fun k => k = b) w w'))
    case atStart => exact ⟨i0, i0 + 1, l, rfl, by go_num, by omega, by omega, rfl, HN, HX.out.symm, rfl, fun p hp => hp, H.out.keep HF1.out (fun k _ => not_no k), HF1.out.mono (fun k _ h => absurd h (not_no k))⟩
    case round =>
      obtain ⟨i, j, m, rfl, rfl, hij, hj, hq, HM, HT, HD, HI, HO, HF⟩ := hrel
      have HQ := hid hq
      have HIJ := hid hij
      clear hq
      by_cases c1 : j < n
      · obtain ⟨p, hp⟩ : ∃ p, l[j]? = some p := by have := HN.out; exact ⟨l[j]'(by omega), by simp [HN.out, c1]⟩
        have hmj : m[j]? = some p := by
          have := congrArg (fun x => x[0]?) HD.out
          simpa [List.getElem?_drop, hp] using this
        obtain ⟨A, n', c', hpv⟩ := HS.out p (List.mem_of_getElem? hp)
        obtain ⟨k0, k1, k2⟩ := gram_at HO.out hmj
        rw [hpv] at k2
        have HPP := hid hp
        have HPV := hid hpv
        have HMJ := hid hmj
        clear hp hmj hpv
        go_wp2_with fail
        have hpbw : pb < wr.heap.size := Nat.lt_of_lt_of_le HPL.out HF.out.size
        refine (pred_c _ p.a p.z A n' c' pb node (Lib.cell?_alloc_some _ ((HF.out.cell HPL.out HPB.out 0).trans HP.out))).mono ?_
        rintro e w2 ⟨rfl, F2⟩
        have O2 := (HO.out.keep ((Fr.refl No wr).alloc (.cells #[.int .i64 p.a, .int .i64 p.z, .slice A n' c'] 29)) (fun k _ => not_no k)).keep F2 (fun k _ => not_no k)
        have B2 := (Blk.new wr 29 #[.int .i64 p.a, .int .i64 p.z, .slice A n' c']).keep F2 (not_no _)
        obtain ⟨b0, b1, b2, bf⟩ := B2.three
        have FF2 : Fr (fun k => k = b) w w2 := HF.out.trans (((Fr.refl No wr).alloc _).fresh_no F2) (fun k _ h => absurd h (not_no k))
        have HO2 := hid O2
        have HF2 := hid FF2
        clear O2 F2 B2 FF2 k0 k1 k2
        by_cases c2 : p.z = node
        · have d2 : (p.z == node) = true := by simpa using c2
          have HC2 := hid c2
          clear c2
          go_wp2_with fail
          go_roundg (n - (j + 1))
          case measure => have := HQ.out; omega
          case rel =>
            refine ⟨i, j + 1, m, rfl, by go_num, by omega, by omega, rfl, HM, ?_, ?_, HI, HO2, HF2⟩
            · unfold Hid left
              rw [List.take_add_one, HPP.out, List.filter_append, HT.out]
              simp [left, HC2.out]
            · have := congrArg List.tail HD.out
              simpa [Hid, List.tail_drop] using this
        · have d2 : (p.z == node) = false := by simpa using c2
          have HC2 := hid c2
          have hib : i < n := by omega
          have hbn : b ≠ wr.heap.size := by
            have := HO.out.lt b (by simp [Value.ownBlock])
            omega
          have hbn2 : ¬ wr.heap.size = b := fun e => hbn e.symm
          have hw2 : IntKind.i64.wrap ((i : Int) + 1) = ((i + 1 : Nat) : Int) := by rw [IntKind.wrap_i64]; omega
          obtain ⟨r0, rf0⟩ := HO2.out.room (i * 3) (by omega)
          obtain ⟨r1, rf1⟩ := HO2.out.room (i * 3 + 1) (by omega)
          obtain ⟨r2, rf2⟩ := HO2.out.room (i * 3 + 2) (by omega)
          obtain ⟨x0, r0⟩ := Option.isSome_iff_exists.1 r0
          obtain ⟨x1, r1⟩ := Option.isSome_iff_exists.1 r1
          obtain ⟨x2, r2⟩ := Option.isSome_iff_exists.1 r2
          have HB := hid hbn
          clear c2 hbn
          go_wp2_with fail
          go_roundg (n - (j + 1))
          case measure => have := HQ.out; omega
          case rel =>
            refine ⟨i + 1, j + 1, m.set i p, by go_num, by go_num, by omega, by omega, rfl, by have := HM.out; simpa [Hid] using this, ?_, ?_, ?_, ?_, ?_⟩
            · have hm := HM.out
              unfold Hid left
              rw [List.take_add_one, List.take_add_one, HPP.out, List.filter_append, List.take_set, List.set_eq_of_length_le (by simp; omega), HT.out]
              have : (m.set i p)[i]? = some p := by rw [List.getElem?_set_self (by omega)]
              rw [this]
              simp [left, HC2.out]
            · have := congrArg List.tail HD.out
              unfold Hid
              rw [List.drop_set_of_lt (by omega)]
              simpa [List.tail_drop] using this
            · intro q hq
              rcases List.mem_or_eq_of_mem_set hq with h | rfl
              · exact HI.out q h
              · exact List.mem_of_getElem? HPP.out
            · unfold Hid
              rw [← rows_set, HPV.out]
              exact ((HO2.out.set (i * 3) _).set (i * 3 + 1) _).set (i * 3 + 2) _
            · exact Fr.setCell (Fr.setCell (Fr.setCell HF2.out (fun _ => rfl) _) (fun _ => rfl) _) (fun _ => rfl) _
      · have hjn : j = n := by omega
        subst hjn
        have hl : m.take i = left l node := by rw [HT.out, ← HN.out, List.take_length]
        have hli : (left l node).length = i := by rw [← hl, List.length_take, HM.out]; omega
        have hci : ¬ c = i := by omega
        have hcl' : i ≤ c := by omega
        have hjc : i ≤ j := by omega
        obtain ⟨vs, hvs, hcl⟩ := run_clear_any (P := Try.prog) wr 38 29 (.agg #[.int .i64 0, .int .i64 0, .slice none 0 0]) 3 Try.underlying38 Try.zeroValue29 rfl (by intro u hu; simp [Value.cells] at hu; rcases hu with rfl | rfl | rfl <;> rfl) b (i * 3) (j - i) (c - i) (by omega) (by omega) (fun t ht => (HO.out.room _ (by omega)).1) (fun t ht => (HO.out.room _ (by omega)).2)
        have O2 := (HO.out.first i (by omega)).behind (i * 3) vs (Nat.le_refl _) (by omega)
        have F2 : Fr (fun k => k = b) w (wr.setCells b (i * 3) vs) := Fr.setCells (S := fun k => k = b) HF.out (fun _ => rfl) _ _
        rw [rows_take Gr.cells_length, hl] at O2
        have HO2 := hid O2
        have HF2 := hid F2
        have HLI := hid hli
        clear hl hli hvs O2 F2 hij
        go_wp2_with fail
        go_ret
        rw [HLI.out]
        exact ⟨rfl, HO2.out, HF2.out⟩
end Go.Proofs.Ytjgcibjodiefkaa
