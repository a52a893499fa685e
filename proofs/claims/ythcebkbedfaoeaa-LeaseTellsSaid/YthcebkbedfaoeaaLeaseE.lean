import Derived.Test.YthcebkbedfaoeaaLeaseD
/-! drop: the entries that go are gone. (gen_leaseE.py prints it.) -/
namespace Go.Proofs.Ythcebkbedfaoeaa
open Go.RowKit
set_option linter.unusedVariables false
set_option linter.unusedSimpArgs false

def Tills (ms : List (K3 × Ls)) : Prop := ∀ p ∈ ms, 0 ≤ p.2.till ∧ p.2.till ≤ 4611686018427387904
def ReadyA (nd ep : Int) (w : World) (p1 p2 : Nat) : Prop := Blk w p1 3 #[.int .i64 nd] ∧ Blk w p2 3 #[.int .i64 ep]
def ReadyE (g : Nat) (n l m : Value) (s tick : Int) (w : World) (p1 p2 : Nat) : Prop := Blk w p1 24 #[.pointer (some ⟨g, 0, none⟩)] ∧ Blk w p2 3 #[.int .i64 tick] ∧ Blk w g 27 #[n, l, .int .i64 s, m]
theorem ReadyA.keep {nd ep : Int} {w w' : World} {p1 p2 : Nat} {S : Nat → Prop} (h : ReadyA nd ep w p1 p2) (hf : Fr S w w') (hS : ∀ x t cs, Blk w x t cs → ¬ S x) : ReadyA nd ep w' p1 p2 := ⟨h.1.keep hf (hS _ _ _ h.1), h.2.keep hf (hS _ _ _ h.2)⟩
theorem ReadyE.keep {g : Nat} {n l m : Value} {s tick : Int} {w w' : World} {p1 p2 : Nat} {S : Nat → Prop} (h : ReadyE g n l m s tick w p1 p2) (hf : Fr S w w') (hS : ∀ x t cs, Blk w x t cs → ¬ S x) : ReadyE g n l m s tick w' p1 p2 := ⟨h.1.keep hf (hS _ _ _ h.1), h.2.1.keep hf (hS _ _ _ h.2.1), h.2.2.keep hf (hS _ _ _ h.2.2)⟩
/-- what is there when the entries of dn have been asked -/
def asked (goes : Ls → Bool) (dn : List K3) (ms : List (K3 × Ls)) : List (K3 × Ls) := ms.filter (fun p => !decide (p.1 ∈ dn) || !goes p.2)
def toCome (dn : List K3) (ms : List (K3 × Ls)) : List (K3 × Ls) := ms.filter (fun p => !decide (p.1 ∈ dn))
theorem asked_nil (goes : Ls → Bool) (ms : List (K3 × Ls)) : asked goes [] ms = ms := List.filter_eq_self.2 (by simp)
theorem toCome_nil (ms : List (K3 × Ls)) : toCome [] ms = ms := List.filter_eq_self.2 (by simp)
theorem toCome_cons (dn : List K3) (ms : List (K3 × Ls)) (k : K3) : (toCome dn ms).filter (fun q => decide (q.1 ≠ k)) = toCome (k :: dn) ms := by
  unfold toCome
  rw [List.filter_filter]
  apply List.filter_congr
  intro p _
  by_cases h1 : p.1 = k <;> by_cases h2 : p.1 ∈ dn <;> simp [h1, h2]
theorem key_same {ms : List (K3 × Ls)} (hn : (ms.map (·.1)).Nodup) {p q : K3 × Ls} (hp : p ∈ ms) (hq : q ∈ ms) (h : p.1 = q.1) : p = q := same_of_nodup (·.1) ms hn p hp q hq h
theorem asked_stay {goes : Ls → Bool} {dn : List K3} {ms : List (K3 × Ls)} (hn : (ms.map (·.1)).Nodup) {q : K3 × Ls} (hq : q ∈ ms) (hg : goes q.2 = false) : asked goes (q.1 :: dn) ms = asked goes dn ms := by
  unfold asked
  apply List.filter_congr
  intro p hp
  by_cases h1 : p.1 = q.1
  · have := key_same hn hp hq h1
    subst this
    simp [hg]
  · simp [h1]
theorem asked_go {goes : Ls → Bool} {dn : List K3} {ms : List (K3 × Ls)} (hn : (ms.map (·.1)).Nodup) {q : K3 × Ls} (hq : q ∈ ms) (hg : goes q.2 = true) : (asked goes dn ms).filter (fun p => !decide (p.1 = q.1)) = asked goes (q.1 :: dn) ms := by
  unfold asked
  rw [List.filter_filter]
  apply List.filter_congr
  intro p hp
  by_cases h1 : p.1 = q.1
  · have := key_same hn hp hq h1
    subst this
    simp [hg]
  · simp [h1]
theorem asked_all {goes : Ls → Bool} {dn : List K3} {ms : List (K3 × Ls)} (h : toCome dn ms = []) : asked goes dn ms = ms.filter (fun p => !goes p.2) := by
  unfold asked
  apply List.filter_congr
  intro p hp
  have : p.1 ∈ dn := by
    unfold toCome at h
    rw [List.filter_eq_nil_iff] at h
    simpa using h p hp
  simp [this]
theorem vals_filter (ms : List (K3 × Ls)) (k : K3) : (vals ms).filter (fun q => decide (q.1 ≠ k)) = vals (ms.filter (fun q => decide (q.1 ≠ k))) := by
  unfold vals
  rw [List.filter_map]
  rfl
theorem vals_mem {ms : List (K3 × Ls)} {p : K3 × Value} (h : p ∈ vals ms) : ∃ q ∈ ms, p = (q.1, q.2.val) := by
  obtain ⟨q, hq, rfl⟩ := List.mem_map.1 h
  exact ⟨q, hq, rfl⟩
theorem vals_nil {ms : List (K3 × Ls)} (h : vals ms = []) : ms = [] := by
  cases ms with
  | nil => rfl
  | cons a t => simp [vals] at h
theorem toCome_len {dn : List K3} {ms : List (K3 × Ls)} {q : K3 × Ls} (hq : q ∈ toCome dn ms) : (toCome (q.1 :: dn) ms).length < (toCome dn ms).length := by
  rw [← toCome_cons]
  rcases Nat.lt_or_ge ((toCome dn ms).filter (fun p => decide (p.1 ≠ q.1))).length (toCome dn ms).length with h | h
  · exact h
  · have := List.length_filter_le (fun p : K3 × Ls => decide (p.1 ≠ q.1)) (toCome dn ms)
    have e := List.length_filter_eq_length_iff.1 (Nat.le_antisymm this h) q hq
    simp at e

/-! ## A -/
set_option maxRecDepth 100000 in
set_option maxHeartbeats 1000000 in
theorem dropFn_A (w : World) (k : K3) (x : Ls) (p1 p2 p3 : Nat) (nd ep : Int) (hr : ReadyA nd ep w p1 p2) (h3 : Blk w p3 67 #[.func (.func 27) #[] #[.pointer (some ⟨p1, 0, none⟩), .pointer (some ⟨p2, 0, none⟩)]]) (hx : 0 ≤ x.till ∧ x.till ≤ 4611686018427387904)  :
    Calls Try.prog 41 #[enc3 k, x.val, .pointer (some ⟨p3, 0, none⟩)] w fun e w' => e = .returned (.bool (goesA nd ep x)) ∧ Fr No w w' := by
  have HP := hid (fun (w' : World) (hf : Fr No w w') => show Calls Try.prog 27 #[x.val, .pointer (some ⟨p1, 0, none⟩), .pointer (some ⟨p2, 0, none⟩)] w' fun e w'' => e = .returned (.bool (goesA nd ep x)) ∧ Fr No w' w'' from by
    have hr' := hr.keep hf (fun _ _ _ _ => not_no _)
    exact predA_c w' x p1 p2 nd ep (hr'.1.cell 0) (hr'.2.cell 0))
  obtain ⟨a0, a1, a2, a3, a4⟩ := x
  obtain ⟨k0, k1, k2⟩ := k
  have h3' := ((h3.alloc (.cells #[.int .i64 k0, .int .i64 k1, .int .i64 k2] 65)).alloc (.cells #[.int .i64 a0, .int .i64 a1, .int .i64 a2, .int .i64 a3, .int .i64 a4] 30)).cell 0
  clear hr h3
  unfold enc3
  rw [show (Ls.mk a0 a1 a2 a3 a4).val = .agg #[.int .i64 a0, .int .i64 a1, .int .i64 a2, .int .i64 a3, .int .i64 a4] from rfl] at HP ⊢
  dsimp only
  go_enter Try.func41, Try.ntmps41
  go_wp2_with fail
  refine (HP.out _ (((Fr.refl No w).alloc _).alloc _)).mono ?_
  rintro e w1 ⟨rfl, f1⟩
  have F1 := hid ((((Fr.refl No w).alloc _).alloc _).fresh_no f1)
  clear f1
  go_wp2_with fail
  go_ret
  exact ⟨rfl, F1.out⟩
set_option maxRecDepth 100000 in
set_option maxHeartbeats 2000000 in
theorem del_A (w : World) (b : Nat) (ms : List (K3 × Ls)) (p1 p2 p3 : Nat) (nd ep : Int) (hm : MapAt enc3 w b (vals ms)) (hr : ReadyA nd ep w p1 p2) (h3 : Blk w p3 67 #[.func (.func 27) #[] #[.pointer (some ⟨p1, 0, none⟩), .pointer (some ⟨p2, 0, none⟩)]]) (hx : Tills ms)  :
    Calls Try.prog 40 #[.map (some b), .func (.func 41) #[] #[.pointer (some ⟨p3, 0, none⟩)]] w fun e w' =>
      e = .returned (.tuple #[]) ∧ MapAt enc3 w' b (vals (ms.filter (fun p => !goesA nd ep p.2))) ∧ Fr (fun x => x = b) w w' := by
  obtain ⟨it, hrng, hit⟩ := run_rangeK (P := Try.prog) (T := 25) (K := 65) (E := 30) (enc := enc3) Try.underlying25 hm
  have hnd : (ms.map (·.1)).Nodup := by have := hm.nodup; rwa [vals_keys] at this
  have HN := hid hnd
  have HIT := hid hit
  have HX := hid hx
  have HBL := hid hm.lt
  have HR := hid hr
  have H3 := hid h3
  have HPB := hid (fun (x : Nat) (t : TypeId) (cs : Array Value) (h : Blk w x t cs) => h.not_mapK hm)
  clear hnd hit hx hr h3 hm
  go_enter Try.func40, Try.ntmps40
  go_wp2_with fail
  go_loopg [8] (ms.length + 1) (fun q v8 w' => ∃ dn : List K3, q = (toCome dn ms).length + 1 ∧ Hid (IterAt enc3 w' w.heap.size b (vals (asked (goesA nd ep) dn ms)) (vals (toCome dn ms))) ∧ Hid (Fr (fun x => x = b) w w'))
  case atStart => exact ⟨[], by rw [toCome_nil], by rw [toCome_nil, asked_nil]; exact HIT.out, (Fr.refl _ w).alloc _⟩
  case round =>
    obtain ⟨dn, hq, HI, HF⟩ := hrel
    have HQ := hid hq
    clear hq HIT
    rcases HI.out.step keyOK3 0 with ⟨hl, hnext⟩ | ⟨p, hp, w2, hnext, hent, hi2, hf2⟩
    · have HL := hid (vals_nil hl)
      clear hl
      go_wp2_with fail
      go_end0
      refine ⟨rfl, ?_, HF.out⟩
      rw [← asked_all HL.out]
      exact HI.out.map
    · obtain ⟨⟨k, x⟩, hq, rfl⟩ := vals_mem hp
      have HM := hid hq
      have HMS := hid (List.mem_filter.1 hq).1
      rw [vals_filter, toCome_cons] at hi2
      have HI2 := hid hi2
      have HF2 := hid hf2
      obtain ⟨k0, k1, k2⟩ := k
      obtain ⟨a0, a1, a2, a3, a4⟩ := x
      dsimp only at hnext hent
      replace hnext : (Instr.next (.pointer (some ⟨w.heap.size, 0, none⟩)) false 0).run Try.prog wr = .ok (.tuple #[.bool true, .agg #[.int .i64 k0, .int .i64 k1, .int .i64 k2], .agg #[.int .i64 a0, .int .i64 a1, .int .i64 a2, .int .i64 a3, .int .i64 a4]]) w2 := hnext
      replace hent : (Instr.entry (.pointer (some ⟨w.heap.size, 0, none⟩))).run Try.prog w2 = .ok (.tuple #[.agg #[.int .i64 k0, .int .i64 k1, .int .i64 k2], .agg #[.int .i64 a0, .int .i64 a1, .int .i64 a2, .int .i64 a3, .int .i64 a4]]) w2 := hent
      have FW2 := hid (HF.out.trans HF2.out (fun x hx e => absurd hx (by omega)))
      have R2 := hid (HR.out.keep FW2.out (fun x t cs h e => HPB.out x t cs h e))
      have B3 := hid (H3.out.keep FW2.out (fun e => HPB.out _ _ _ H3.out e))
      clear hp hq hi2 hf2
      go_wp2_with fail
      have FX := hid (((Fr.refl No w2).alloc (.cells #[.int .i64 k0, .int .i64 k1, .int .i64 k2] 65)).alloc (.cells #[.int .i64 a0, .int .i64 a1, .int .i64 a2, .int .i64 a3, .int .i64 a4] 30))
      have HK := hid ((Blk.new w2 65 #[.int .i64 k0, .int .i64 k1, .int .i64 k2]).alloc (.cells #[.int .i64 a0, .int .i64 a1, .int .i64 a2, .int .i64 a3, .int .i64 a4] 30))
      refine (dropFn_A _ (k0, k1, k2) ⟨a0, a1, a2, a3, a4⟩ p1 p2 p3 nd ep (R2.out.keep FX.out (fun _ _ _ _ => not_no _)) (B3.out.keep FX.out (not_no _)) (HX.out _ HMS.out) ).mono ?_
      rintro e w3 ⟨rfl, f3⟩
      have F3 := hid (FX.out.fresh_no f3)
      have K3' := hid (HK.out.keep f3 (not_no _))
      have n0 := K3'.out.cell 0
      have n1 := K3'.out.cell 1
      have n2 := K3'.out.cell 2
      have I3 := hid (HI2.out.keep F3.out (not_no _) (not_no _))
      have FW3 := hid (FW2.out.trans F3.out (fun x _ h => absurd h (not_no x)))
      clear hnext hent f3
      cases hg : goesA nd ep ⟨a0, a1, a2, a3, a4⟩ with
      | false =>
        have HG := hid hg
        clear hg
        go_wp2_with fail
        go_roundg ((toCome ((k0, k1, k2) :: dn) ms).length + 1)
        case measure => have := HQ.out; have : (toCome ((k0, k1, k2) :: dn) ms).length < (toCome dn ms).length := toCome_len HM.out; omega
        case rel =>
          refine ⟨(k0, k1, k2) :: dn, rfl, ?_, FW3⟩
          rw [asked_stay (q := ((k0, k1, k2), ⟨a0, a1, a2, a3, a4⟩)) HN.out HMS.out HG.out]
          exact I3
      | true =>
        have HG := hid hg
        obtain ⟨w4, hdel, hi4, hf4⟩ := I3.out.del (ty := 0) Try.underlying25 keyOK3 (k0, k1, k2) (by rw [vals_keys]; intro h; obtain ⟨p, hp, he⟩ := List.mem_map.1 h; have := (List.mem_filter.1 hp).2; simp [he] at this)
        rw [del_vals] at hi4
        have HI4 := hid hi4
        have FW4 := hid (FW3.out.trans hf4 (fun x _ h => h))
        replace hdel : (Builtin.delete_ #[25, 65] 0 #[.map (some b), .agg #[.int .i64 k0, .int .i64 k1, .int .i64 k2]]).run Try.prog w3 = .ok (.tuple #[]) w4 := hdel
        clear hg hi4 hf4
        go_wp2_with fail
        go_roundg ((toCome ((k0, k1, k2) :: dn) ms).length + 1)
        case measure => have := HQ.out; have : (toCome ((k0, k1, k2) :: dn) ms).length < (toCome dn ms).length := toCome_len HM.out; omega
        case rel =>
          refine ⟨(k0, k1, k2) :: dn, rfl, ?_, FW4⟩
          have := HI4.out
          rw [asked_go (q := ((k0, k1, k2), ⟨a0, a1, a2, a3, a4⟩)) HN.out HMS.out HG.out] at this
          exact this

/-! ## E -/
set_option maxRecDepth 100000 in
set_option maxHeartbeats 1000000 in
theorem dropFn_E (w : World) (k : K3) (x : Ls) (p1 p2 p3 : Nat) (g : Nat) (n l m : Value) (s tick : Int) (hr : ReadyE g n l m s tick w p1 p2) (h3 : Blk w p3 67 #[.func (.func 28) #[] #[.pointer (some ⟨p1, 0, none⟩), .pointer (some ⟨p2, 0, none⟩)]]) (hx : 0 ≤ x.till ∧ x.till ≤ 4611686018427387904) (hs : 0 ≤ s ∧ s ≤ 1048576) :
    Calls Try.prog 41 #[enc3 k, x.val, .pointer (some ⟨p3, 0, none⟩)] w fun e w' => e = .returned (.bool (goesE s tick x)) ∧ Fr No w w' := by
  have HP := hid (fun (w' : World) (hf : Fr No w w') => show Calls Try.prog 28 #[x.val, .pointer (some ⟨p1, 0, none⟩), .pointer (some ⟨p2, 0, none⟩)] w' fun e w'' => e = .returned (.bool (goesE s tick x)) ∧ Fr No w' w'' from by
    have hr' := hr.keep hf (fun _ _ _ _ => not_no _)
    exact predE_c w' x p1 p2 g n l m s tick hr'.2.2 (hr'.1.cell 0) (hr'.2.1.cell 0) hx hs)
  obtain ⟨a0, a1, a2, a3, a4⟩ := x
  obtain ⟨k0, k1, k2⟩ := k
  have h3' := ((h3.alloc (.cells #[.int .i64 k0, .int .i64 k1, .int .i64 k2] 65)).alloc (.cells #[.int .i64 a0, .int .i64 a1, .int .i64 a2, .int .i64 a3, .int .i64 a4] 30)).cell 0
  clear hr h3
  unfold enc3
  rw [show (Ls.mk a0 a1 a2 a3 a4).val = .agg #[.int .i64 a0, .int .i64 a1, .int .i64 a2, .int .i64 a3, .int .i64 a4] from rfl] at HP ⊢
  dsimp only
  go_enter Try.func41, Try.ntmps41
  go_wp2_with fail
  refine (HP.out _ (((Fr.refl No w).alloc _).alloc _)).mono ?_
  rintro e w1 ⟨rfl, f1⟩
  have F1 := hid ((((Fr.refl No w).alloc _).alloc _).fresh_no f1)
  clear f1
  go_wp2_with fail
  go_ret
  exact ⟨rfl, F1.out⟩
set_option maxRecDepth 100000 in
set_option maxHeartbeats 2000000 in
theorem del_E (w : World) (b : Nat) (ms : List (K3 × Ls)) (p1 p2 p3 : Nat) (g : Nat) (n l m : Value) (s tick : Int) (hm : MapAt enc3 w b (vals ms)) (hr : ReadyE g n l m s tick w p1 p2) (h3 : Blk w p3 67 #[.func (.func 28) #[] #[.pointer (some ⟨p1, 0, none⟩), .pointer (some ⟨p2, 0, none⟩)]]) (hx : Tills ms) (hs : 0 ≤ s ∧ s ≤ 1048576) :
    Calls Try.prog 40 #[.map (some b), .func (.func 41) #[] #[.pointer (some ⟨p3, 0, none⟩)]] w fun e w' =>
      e = .returned (.tuple #[]) ∧ MapAt enc3 w' b (vals (ms.filter (fun p => !goesE s tick p.2))) ∧ Fr (fun x => x = b) w w' := by
  obtain ⟨it, hrng, hit⟩ := run_rangeK (P := Try.prog) (T := 25) (K := 65) (E := 30) (enc := enc3) Try.underlying25 hm
  have hnd : (ms.map (·.1)).Nodup := by have := hm.nodup; rwa [vals_keys] at this
  have HN := hid hnd
  have HIT := hid hit
  have HX := hid hx
  have HBL := hid hm.lt
  have HR := hid hr
  have H3 := hid h3
  have HPB := hid (fun (x : Nat) (t : TypeId) (cs : Array Value) (h : Blk w x t cs) => h.not_mapK hm)
  clear hnd hit hx hr h3 hm
  go_enter Try.func40, Try.ntmps40
  go_wp2_with fail
  go_loopg [8] (ms.length + 1) (fun q v8 w' => ∃ dn : List K3, q = (toCome dn ms).length + 1 ∧ Hid (IterAt enc3 w' w.heap.size b (vals (asked (goesE s tick) dn ms)) (vals (toCome dn ms))) ∧ Hid (Fr (fun x => x = b) w w'))
  case atStart => exact ⟨[], by rw [toCome_nil], by rw [toCome_nil, asked_nil]; exact HIT.out, (Fr.refl _ w).alloc _⟩
  case round =>
    obtain ⟨dn, hq, HI, HF⟩ := hrel
    have HQ := hid hq
    clear hq HIT
    rcases HI.out.step keyOK3 0 with ⟨hl, hnext⟩ | ⟨p, hp, w2, hnext, hent, hi2, hf2⟩
    · have HL := hid (vals_nil hl)
      clear hl
      go_wp2_with fail
      go_end0
      refine ⟨rfl, ?_, HF.out⟩
      rw [← asked_all HL.out]
      exact HI.out.map
    · obtain ⟨⟨k, x⟩, hq, rfl⟩ := vals_mem hp
      have HM := hid hq
      have HMS := hid (List.mem_filter.1 hq).1
      rw [vals_filter, toCome_cons] at hi2
      have HI2 := hid hi2
      have HF2 := hid hf2
      obtain ⟨k0, k1, k2⟩ := k
      obtain ⟨a0, a1, a2, a3, a4⟩ := x
      dsimp only at hnext hent
      replace hnext : (Instr.next (.pointer (some ⟨w.heap.size, 0, none⟩)) false 0).run Try.prog wr = .ok (.tuple #[.bool true, .agg #[.int .i64 k0, .int .i64 k1, .int .i64 k2], .agg #[.int .i64 a0, .int .i64 a1, .int .i64 a2, .int .i64 a3, .int .i64 a4]]) w2 := hnext
      replace hent : (Instr.entry (.pointer (some ⟨w.heap.size, 0, none⟩))).run Try.prog w2 = .ok (.tuple #[.agg #[.int .i64 k0, .int .i64 k1, .int .i64 k2], .agg #[.int .i64 a0, .int .i64 a1, .int .i64 a2, .int .i64 a3, .int .i64 a4]]) w2 := hent
      have FW2 := hid (HF.out.trans HF2.out (fun x hx e => absurd hx (by omega)))
      have R2 := hid (HR.out.keep FW2.out (fun x t cs h e => HPB.out x t cs h e))
      have B3 := hid (H3.out.keep FW2.out (fun e => HPB.out _ _ _ H3.out e))
      clear hp hq hi2 hf2
      go_wp2_with fail
      have FX := hid (((Fr.refl No w2).alloc (.cells #[.int .i64 k0, .int .i64 k1, .int .i64 k2] 65)).alloc (.cells #[.int .i64 a0, .int .i64 a1, .int .i64 a2, .int .i64 a3, .int .i64 a4] 30))
      have HK := hid ((Blk.new w2 65 #[.int .i64 k0, .int .i64 k1, .int .i64 k2]).alloc (.cells #[.int .i64 a0, .int .i64 a1, .int .i64 a2, .int .i64 a3, .int .i64 a4] 30))
      refine (dropFn_E _ (k0, k1, k2) ⟨a0, a1, a2, a3, a4⟩ p1 p2 p3 g n l m s tick (R2.out.keep FX.out (fun _ _ _ _ => not_no _)) (B3.out.keep FX.out (not_no _)) (HX.out _ HMS.out) hs).mono ?_
      rintro e w3 ⟨rfl, f3⟩
      have F3 := hid (FX.out.fresh_no f3)
      have K3' := hid (HK.out.keep f3 (not_no _))
      have n0 := K3'.out.cell 0
      have n1 := K3'.out.cell 1
      have n2 := K3'.out.cell 2
      have I3 := hid (HI2.out.keep F3.out (not_no _) (not_no _))
      have FW3 := hid (FW2.out.trans F3.out (fun x _ h => absurd h (not_no x)))
      clear hnext hent f3
      cases hg : goesE s tick ⟨a0, a1, a2, a3, a4⟩ with
      | false =>
        have HG := hid hg
        clear hg
        go_wp2_with fail
        go_roundg ((toCome ((k0, k1, k2) :: dn) ms).length + 1)
        case measure => have := HQ.out; have : (toCome ((k0, k1, k2) :: dn) ms).length < (toCome dn ms).length := toCome_len HM.out; omega
        case rel =>
          refine ⟨(k0, k1, k2) :: dn, rfl, ?_, FW3⟩
          rw [asked_stay (q := ((k0, k1, k2), ⟨a0, a1, a2, a3, a4⟩)) HN.out HMS.out HG.out]
          exact I3
      | true =>
        have HG := hid hg
        obtain ⟨w4, hdel, hi4, hf4⟩ := I3.out.del (ty := 0) Try.underlying25 keyOK3 (k0, k1, k2) (by rw [vals_keys]; intro h; obtain ⟨p, hp, he⟩ := List.mem_map.1 h; have := (List.mem_filter.1 hp).2; simp [he] at this)
        rw [del_vals] at hi4
        have HI4 := hid hi4
        have FW4 := hid (FW3.out.trans hf4 (fun x _ h => h))
        replace hdel : (Builtin.delete_ #[25, 65] 0 #[.map (some b), .agg #[.int .i64 k0, .int .i64 k1, .int .i64 k2]]).run Try.prog w3 = .ok (.tuple #[]) w4 := hdel
        clear hg hi4 hf4
        go_wp2_with fail
        go_roundg ((toCome ((k0, k1, k2) :: dn) ms).length + 1)
        case measure => have := HQ.out; have : (toCome ((k0, k1, k2) :: dn) ms).length < (toCome dn ms).length := toCome_len HM.out; omega
        case rel =>
          refine ⟨(k0, k1, k2) :: dn, rfl, ?_, FW4⟩
          have := HI4.out
          rw [asked_go (q := ((k0, k1, k2), ⟨a0, a1, a2, a3, a4⟩)) HN.out HMS.out HG.out] at this
          exact this
end Go.Proofs.Ythcebkbedfaoeaa
