import Derived.Test.YtfmoagpfgkokcaaGG
/-! drop: the entries that go are gone. -/
namespace Go.Proofs.Ytfmoagpfgkokcaa
open Go.RowKit
set_option linter.unusedVariables false
set_option linter.unusedSimpArgs false

/-- what is there when the entries of dn have been asked -/
def asked (goes : Ev → Bool) (dn : List K2) (ms : List (K2 × Ev)) : List (K2 × Ev) := ms.filter (fun p => !decide (p.1 ∈ dn) || !goes p.2)
def toCome (dn : List K2) (ms : List (K2 × Ev)) : List (K2 × Ev) := ms.filter (fun p => !decide (p.1 ∈ dn))
theorem asked_nil (goes : Ev → Bool) (ms : List (K2 × Ev)) : asked goes [] ms = ms := List.filter_eq_self.2 (by simp)
theorem toCome_nil (ms : List (K2 × Ev)) : toCome [] ms = ms := List.filter_eq_self.2 (by simp)
theorem toCome_cons (dn : List K2) (ms : List (K2 × Ev)) (k : K2) : (toCome dn ms).filter (fun q => decide (q.1 ≠ k)) = toCome (k :: dn) ms := by
  unfold toCome
  rw [List.filter_filter]
  apply List.filter_congr
  intro p _
  by_cases h1 : p.1 = k <;> by_cases h2 : p.1 ∈ dn <;> simp [h1, h2]
theorem key_same {ms : List (K2 × Ev)} (hn : (ms.map (·.1)).Nodup) {p q : K2 × Ev} (hp : p ∈ ms) (hq : q ∈ ms) (h : p.1 = q.1) : p = q := same_of_nodup (·.1) ms hn p hp q hq h
theorem asked_stay {goes : Ev → Bool} {dn : List K2} {ms : List (K2 × Ev)} (hn : (ms.map (·.1)).Nodup) {q : K2 × Ev} (hq : q ∈ ms) (hg : goes q.2 = false) : asked goes (q.1 :: dn) ms = asked goes dn ms := by
  unfold asked
  apply List.filter_congr
  intro p hp
  by_cases h1 : p.1 = q.1
  · have := key_same hn hp hq h1
    subst this
    simp [hg]
  · simp [h1]
theorem asked_go {goes : Ev → Bool} {dn : List K2} {ms : List (K2 × Ev)} (hn : (ms.map (·.1)).Nodup) {q : K2 × Ev} (hq : q ∈ ms) (hg : goes q.2 = true) : (asked goes dn ms).filter (fun p => !decide (p.1 = q.1)) = asked goes (q.1 :: dn) ms := by
  unfold asked
  rw [List.filter_filter]
  apply List.filter_congr
  intro p hp
  by_cases h1 : p.1 = q.1
  · have := key_same hn hp hq h1
    subst this
    simp [hg]
  · simp [h1]
theorem asked_all {goes : Ev → Bool} {dn : List K2} {ms : List (K2 × Ev)} (h : toCome dn ms = []) : asked goes dn ms = ms.filter (fun p => !goes p.2) := by
  unfold asked
  apply List.filter_congr
  intro p hp
  have : p.1 ∈ dn := by
    unfold toCome at h
    rw [List.filter_eq_nil_iff] at h
    simpa using h p hp
  simp [this]
theorem valsE_filter (ms : List (K2 × Ev)) (k : K2) : (valsE ms).filter (fun q => decide (q.1 ≠ k)) = valsE (ms.filter (fun q => decide (q.1 ≠ k))) := by
  unfold valsE
  rw [List.filter_map]
  rfl
theorem valsE_mem {ms : List (K2 × Ev)} {p : K2 × Value} (h : p ∈ valsE ms) : ∃ q ∈ ms, p = (q.1, q.2.val) := by
  obtain ⟨q, hq, rfl⟩ := List.mem_map.1 h
  exact ⟨q, hq, rfl⟩
theorem valsE_nil {ms : List (K2 × Ev)} (h : valsE ms = []) : ms = [] := by
  cases ms with
  | nil => rfl
  | cons a t => simp [valsE] at h
theorem toCome_len {dn : List K2} {ms : List (K2 × Ev)} {q : K2 × Ev} (hq : q ∈ toCome dn ms) : (toCome (q.1 :: dn) ms).length < (toCome dn ms).length := by
  rw [← toCome_cons]
  rcases Nat.lt_or_ge ((toCome dn ms).filter (fun p => decide (p.1 ≠ q.1))).length (toCome dn ms).length with h | h
  · exact h
  · have := List.length_filter_le (fun p : K2 × Ev => decide (p.1 ≠ q.1)) (toCome dn ms)
    have e := List.length_filter_eq_length_iff.1 (Nat.le_antisymm this h) q hq
    simp at e
theorem del_valsE (k : K2) (ms : List (K2 × Ev)) : delK k (valsE ms) = valsE (ms.filter (fun p => !decide (p.1 = k))) := by
  unfold delK valsE
  rw [List.filter_map]
  rfl
theorem valsE_len (ms : List (K2 × Ev)) : (valsE ms).length = ms.length := by simp [valsE]
/-- what asks each entry: below, or an expiry's closure -/
def ReadyB (g b fb : Nat) (fs : List (Int × Int)) (w : World) (f : Value) : Prop := f = .func (.func 27) #[.pointer (some ⟨g, 0, none⟩)] #[] ∧ Blk w g 67 #[.map (some b), .map (some fb)] ∧ MapAt (Value.int .i64) w fb (valsF fs)
def ReadyE (p : Nat) (tick : Int) (w : World) (f : Value) : Prop := f = .func (.func 31) #[] #[.pointer (some ⟨p, 0, none⟩)] ∧ Blk w p 3 #[.int .i64 tick]
theorem ReadyB.keep {g b fb : Nat} {fs : List (Int × Int)} {w w' : World} {f : Value} {S : Nat → Prop} (h : ReadyB g b fb fs w f) (hf : Fr S w w') (hS : ∀ x t cs, Blk w x t cs → ¬ S x) (hfb : ¬ S fb) : ReadyB g b fb fs w' f := ⟨h.1, h.2.1.keep hf (hS _ _ _ h.2.1), h.2.2.keep hf hfb⟩
theorem ReadyE.keep {p : Nat} {tick : Int} {w w' : World} {f : Value} {S : Nat → Prop} (h : ReadyE p tick w f) (hf : Fr S w w') (hS : ∀ x t cs, Blk w x t cs → ¬ S x) (hfb : True) : ReadyE p tick w' f := ⟨h.1, h.2.keep hf (hS _ _ _ h.2)⟩
def goneE (tick : Int) (e : Ev) : Bool := decide (e.till ≤ tick)
set_option maxRecDepth 100000 in
set_option maxHeartbeats 1000000 in
theorem predE_c (w : World) (e : Ev) (he : e.ok w) (p : Nat) (tick : Int) (hp : w.cell? ⟨p, 0, none⟩ = some (.int .i64 tick)) :
    Calls Try.prog 31 #[e.val, .pointer (some ⟨p, 0, none⟩)] w fun en w' => en = .returned (.bool (goneE tick e)) ∧ Fr No w w' := by
  obtain ⟨A, c, Ac, nc, cc, Ax, nx, cx, hv, hvc, hvx⟩ := Ev.slice he
  obtain ⟨a0, a1, a2, a3, a4, cd, cv, ex, xv, ns, nv⟩ := e
  replace hv : nv = .slice A ns.length c := hv
  replace hvc : cv = .slice Ac nc cc := hvc
  replace hvx : xv = .slice Ax nx cx := hvx
  subst hv hvc hvx
  have k0 : (w.alloc (.cells #[.int .i64 a0, .int .i64 a1, .int .i64 a2, .int .i64 a3, .int .i64 a4, .slice Ac nc cc, .slice Ax nx cx, .slice A ns.length c] 28)).cell? ⟨p, 0, none⟩ = some (.int .i64 tick) := Lib.cell?_alloc_some _ hp
  unfold goneE Ev.val Ev.cells
  dsimp only
  go_enter Try.func31, Try.ntmps31
  go_wp2_with fail
  go_ret
  exact ⟨rfl, (Fr.refl No w).alloc _⟩

/-! ## B -/
set_option maxRecDepth 100000 in
set_option maxHeartbeats 2000000 in
theorem dropFn_B (w : World) (k : K2) (e : Ev) (he : e.ok w) (p3 : Nat) (f : Value) (g b0 fb : Nat) (fs : List (Int × Int)) (hr : ReadyB g b0 fb fs w f) (h3 : Blk w p3 32 #[f]) :
    Calls Try.prog 42 #[enc2 k, e.val, .pointer (some ⟨p3, 0, none⟩)] w fun en w' => en = .returned (.bool (belowB fs e)) ∧ Fr No w w' := by
  have HR := hid hr
  have HE := hid he
  obtain ⟨rfl, _⟩ := hr
  have HP := hid (fun (w' : World) (hf : Fr No w w') => show Calls Try.prog 27 #[.pointer (some ⟨g, 0, none⟩), e.val] w' fun en w'' => en = .returned (.bool (belowB fs e)) ∧ Fr No w' w'' from by
    have hr' := HR.out.keep hf (fun _ _ _ _ => not_no _) (not_no _)
    exact below_c hr'.2.1 hr'.2.2 e (HE.out.keep hf))
  obtain ⟨A, c, Ac, nc, cc, Ax, nx, cx, hv, hvc, hvx⟩ := Ev.slice he
  obtain ⟨a0, a1, a2, a3, a4, cd, cv, ex, xv, ns, nv⟩ := e
  replace hv : nv = .slice A ns.length c := hv
  replace hvc : cv = .slice Ac nc cc := hvc
  replace hvx : xv = .slice Ax nx cx := hvx
  subst hv hvc hvx
  obtain ⟨k0, k1⟩ := k
  have h3' := ((h3.alloc (.cells #[.int .i64 k0, .int .i64 k1] 72)).alloc (.cells #[.int .i64 a0, .int .i64 a1, .int .i64 a2, .int .i64 a3, .int .i64 a4, .slice Ac nc cc, .slice Ax nx cx, .slice A ns.length c] 28)).cell 0
  clear h3 he HR HE
  unfold enc2
  rw [show (Ev.mk a0 a1 a2 a3 a4 cd (.slice Ac nc cc) ex (.slice Ax nx cx) ns (.slice A ns.length c)).val = .agg #[.int .i64 a0, .int .i64 a1, .int .i64 a2, .int .i64 a3, .int .i64 a4, .slice Ac nc cc, .slice Ax nx cx, .slice A ns.length c] from rfl] at HP ⊢
  dsimp only
  go_enter Try.func42, Try.ntmps42
  go_wp2_with fail
  refine (HP.out _ (((Fr.refl No w).alloc _).alloc _)).mono ?_
  rintro en w1 ⟨rfl, f1⟩
  have F1 := hid ((((Fr.refl No w).alloc _).alloc _).fresh_no f1)
  clear f1
  go_wp2_with fail
  go_ret
  exact ⟨rfl, F1.out⟩
set_option maxRecDepth 100000 in
set_option maxHeartbeats 2000000 in
theorem del_B (w : World) (b : Nat) (ms : List (K2 × Ev)) (p3 : Nat) (f : Value) (g b0 fb : Nat) (fs : List (Int × Int)) (hm : MapAt enc2 w b (valsE ms)) (hro : ∀ p ∈ ms, p.2.ok w) (hr : ReadyB g b0 fb fs w f) (hfb : b ≠ fb) (h3 : Blk w p3 32 #[f]) :
    Calls Try.prog 41 #[.map (some b), .func (.func 42) #[] #[.pointer (some ⟨p3, 0, none⟩)]] w fun en w' =>
      en = .returned (.tuple #[]) ∧ MapAt enc2 w' b (valsE (ms.filter (fun p => !belowB fs p.2))) ∧ Fr (fun x => x = b) w w' := by
  obtain ⟨it, hrng, hit⟩ := run_rangeK (P := Try.prog) (T := 64) (K := 72) (E := 28) (enc := enc2) Try.underlying64 hm
  have hnd : (ms.map (·.1)).Nodup := by have := hm.nodup; rwa [valsE_keys] at this
  have HN := hid hnd
  have HIT := hid hit
  have HBL := hid hm.lt
  have HR := hid hr
  have HRO := hid hro
  have H3 := hid h3
  have HCF := hid (cells_not_map hm)
  have HPB := hid (fun (x : Nat) (t : TypeId) (cs : Array Value) (h : Blk w x t cs) => h.not_mapK hm)
  clear hnd hit hr h3 hm hro
  go_enter Try.func41, Try.ntmps41
  go_wp2_with fail
  go_loopg [8] (ms.length + 1) (fun q v8 w' => ∃ dn : List K2, q = (toCome dn ms).length + 1 ∧ Hid (IterAt enc2 w' w.heap.size b (valsE (asked (belowB fs) dn ms)) (valsE (toCome dn ms))) ∧ Hid (Fr (fun x => x = b) w w'))
  case atStart => exact ⟨[], by rw [toCome_nil], by rw [toCome_nil, asked_nil]; exact HIT.out, (Fr.refl _ w).alloc _⟩
  case round =>
    obtain ⟨dn, hq, HI, HF⟩ := hrel
    have HQ := hid hq
    clear hq HIT
    rcases HI.out.step keyOK2 0 with ⟨hl, hnext⟩ | ⟨p, hp, w2, hnext, hent, hi2, hf2⟩
    · have HL := hid (valsE_nil hl)
      clear hl
      go_wp2_with fail
      go_end0
      refine ⟨rfl, ?_, HF.out⟩
      rw [← asked_all HL.out]
      exact HI.out.map
    · obtain ⟨⟨k, e⟩, hq, rfl⟩ := valsE_mem hp
      have HM := hid hq
      have HMS := hid (List.mem_filter.1 hq).1
      rw [valsE_filter, toCome_cons] at hi2
      have HI2 := hid hi2
      have FW2 := hid (HF.out.trans hf2 (fun x hx e => absurd hx (by omega)))
      have R2 := hid (HR.out.keep FW2.out (fun x t cs h e => HPB.out x t cs h e) (fun e => hfb e.symm))
      have B3 := hid (H3.out.keep FW2.out (fun e => HPB.out _ _ _ H3.out e))
      have HE2 := hid ((HRO.out _ HMS.out).keep_ FW2.out HCF.out)
      obtain ⟨A, c, Ac, nc, cc, Ax, nx, cx, hv, hvc, hvx⟩ := Ev.slice HE2.out
      obtain ⟨k0, k1⟩ := k
      obtain ⟨a0, a1, a2, a3, a4, cd, cv, ex, xv, ns, nv⟩ := e
      replace hv : nv = .slice A ns.length c := hv
      replace hvc : cv = .slice Ac nc cc := hvc
      replace hvx : xv = .slice Ax nx cx := hvx
      subst hv hvc hvx
      dsimp only at hnext hent
      replace hnext : (Instr.next (.pointer (some ⟨w.heap.size, 0, none⟩)) false 0).run Try.prog wr = .ok (.tuple #[.bool true, .agg #[.int .i64 k0, .int .i64 k1], .agg #[.int .i64 a0, .int .i64 a1, .int .i64 a2, .int .i64 a3, .int .i64 a4, .slice Ac nc cc, .slice Ax nx cx, .slice A ns.length c]]) w2 := hnext
      replace hent : (Instr.entry (.pointer (some ⟨w.heap.size, 0, none⟩))).run Try.prog w2 = .ok (.tuple #[.agg #[.int .i64 k0, .int .i64 k1], .agg #[.int .i64 a0, .int .i64 a1, .int .i64 a2, .int .i64 a3, .int .i64 a4, .slice Ac nc cc, .slice Ax nx cx, .slice A ns.length c]]) w2 := hent
      clear hp hq hi2 hf2
      go_wp2_with fail
      have FX := hid (((Fr.refl No w2).alloc (.cells #[.int .i64 k0, .int .i64 k1] 72)).alloc (.cells #[.int .i64 a0, .int .i64 a1, .int .i64 a2, .int .i64 a3, .int .i64 a4, .slice Ac nc cc, .slice Ax nx cx, .slice A ns.length c] 28))
      have HK := hid ((Blk.new w2 72 #[.int .i64 k0, .int .i64 k1]).alloc (.cells #[.int .i64 a0, .int .i64 a1, .int .i64 a2, .int .i64 a3, .int .i64 a4, .slice Ac nc cc, .slice Ax nx cx, .slice A ns.length c] 28))
      refine (dropFn_B _ (k0, k1) ⟨a0, a1, a2, a3, a4, cd, .slice Ac nc cc, ex, .slice Ax nx cx, ns, .slice A ns.length c⟩ (HE2.out.keep FX.out) p3 f g b0 fb fs (R2.out.keep FX.out (fun _ _ _ _ => not_no _) (not_no _)) (B3.out.keep FX.out (not_no _))).mono ?_
      rintro en w3 ⟨rfl, f3⟩
      have F3 := hid (FX.out.fresh_no f3)
      have K3' := hid (HK.out.keep f3 (not_no _))
      have n0 := K3'.out.cell 0
      have n1 := K3'.out.cell 1
      have I3 := hid (HI2.out.keep F3.out (not_no _) (not_no _))
      have FW3 := hid (FW2.out.trans F3.out (fun x _ h => absurd h (not_no x)))
      clear hnext hent f3
      cases hg : belowB fs ⟨a0, a1, a2, a3, a4, cd, .slice Ac nc cc, ex, .slice Ax nx cx, ns, .slice A ns.length c⟩ with
      | false =>
        have HG := hid hg
        clear hg
        go_wp2_with fail
        go_roundg ((toCome ((k0, k1) :: dn) ms).length + 1)
        case measure => have := HQ.out; have : (toCome ((k0, k1) :: dn) ms).length < (toCome dn ms).length := toCome_len HM.out; omega
        case rel =>
          refine ⟨(k0, k1) :: dn, rfl, ?_, FW3⟩
          rw [asked_stay (q := ((k0, k1), ⟨a0, a1, a2, a3, a4, cd, .slice Ac nc cc, ex, .slice Ax nx cx, ns, .slice A ns.length c⟩)) HN.out HMS.out HG.out]
          exact I3
      | true =>
        have HG := hid hg
        obtain ⟨w4, hdel, hi4, hf4⟩ := I3.out.del (ty := 0) Try.underlying64 keyOK2 (k0, k1) (by rw [valsE_keys]; intro h; obtain ⟨p, hp, he⟩ := List.mem_map.1 h; have := (List.mem_filter.1 hp).2; simp [he] at this)
        rw [del_valsE] at hi4
        have HI4 := hid hi4
        have FW4 := hid (FW3.out.trans hf4 (fun x _ h => h))
        replace hdel : (Builtin.delete_ #[64, 72] 0 #[.map (some b), .agg #[.int .i64 k0, .int .i64 k1]]).run Try.prog w3 = .ok (.tuple #[]) w4 := hdel
        clear hg hi4 hf4
        go_wp2_with fail
        go_roundg ((toCome ((k0, k1) :: dn) ms).length + 1)
        case measure => have := HQ.out; have : (toCome ((k0, k1) :: dn) ms).length < (toCome dn ms).length := toCome_len HM.out; omega
        case rel =>
          refine ⟨(k0, k1) :: dn, rfl, ?_, FW4⟩
          have := HI4.out
          rw [asked_go (q := ((k0, k1), ⟨a0, a1, a2, a3, a4, cd, .slice Ac nc cc, ex, .slice Ax nx cx, ns, .slice A ns.length c⟩)) HN.out HMS.out HG.out] at this
          exact this
set_option maxRecDepth 100000 in
set_option maxHeartbeats 2000000 in
theorem drop_B {w : World} {g b fb : Nat} {ms : List (K2 × Ev)} {fs : List (Int × Int)} (h : IsC w g b fb ms fs) (f : Value)  (hr : ReadyB g b fb fs w f) (hml : ms.length ≤ 1000000) :
    Calls Try.prog 30 #[.pointer (some ⟨g, 0, none⟩), f] w fun en w' =>
      en = .returned (.int .i64 ((ms.length : Int) - (ms.filter (fun p => !belowB fs p.2)).length)) ∧ IsC w' g b fb (ms.filter (fun p => !belowB fs p.2)) fs ∧ Fr (fun x => x = b) w w' := by
  have hfl : (ms.filter (fun p => !belowB fs p.2)).length ≤ ms.length := List.length_filter_le _ _
  have HR0 := hid hr
  obtain ⟨hfv, _⟩ := hr
  obtain ⟨W, hW⟩ : ∃ W, w.alloc (.cells #[f] 32) = W := ⟨_, rfl⟩
  have FW := hid (show Fr No w W from hW ▸ (Fr.refl No w).alloc _)
  have H3 := hid (show Blk W w.heap.size 32 #[f] from hW ▸ Blk.new w _ _)
  have H := hid (h.keep FW.out)
  have HR := hid (HR0.out.keep FW.out (fun _ _ _ _ => not_no _) (not_no _))
  obtain ⟨c0, c1, cf⟩ := H.out.blk.pair
  have hlen := fun ty => run_lenK (P := Try.prog) (T := 64) (K := 72) (E := 28) (ty := ty) Try.underlying64 H.out.map
  rw [valsE_len] at hlen
  subst hfv
  have HW := hid hW
  clear hW h HR0
  go_enter Try.func30, Try.ntmps30
  go_upto_region 1 with fail
  rw [HW.out]
  go_wp2_with fail
  refine (del_B _ b ms w.heap.size _ g b fb fs H.out.map H.out.rows HR.out H.out.two H3.out).mono ?_
  rintro en w2 ⟨rfl, m2, f2⟩
  have HT2 := hid (show IsC w2 g b fb (ms.filter (fun p => !belowB fs p.2)) fs from ⟨H.out.blk.keep f2 (fun e => (H.out.blk.not_mapK H.out.map) e), m2, H.out.flo.keep f2 (fun e => H.out.two e.symm), H.out.two, fun p hp => (H.out.rows p (List.mem_filter.1 hp).1).keep_ f2 (cells_not_map H.out.map)⟩)
  have HF2 := hid ((FW.out.mono (S' := fun x => x = b) (fun x _ h => absurd h (not_no x))).trans f2 (fun x _ h => h))
  have hlen2 := fun ty => run_lenK (P := Try.prog) (T := 64) (K := 72) (E := 28) (ty := ty) Try.underlying64 m2
  rw [valsE_len] at hlen2
  clear c0 c1 cf hlen m2 f2
  obtain ⟨c0, c1, cf⟩ := HT2.out.blk.pair
  generalize hk : ms.filter (fun p => !belowB fs p.2) = left at hlen2 HT2 hfl ⊢
  go_wp2_with fail
  go_ret
  exact ⟨by rw [hk]; rfl, by rw [hk]; exact HT2.out, HF2.out⟩

/-! ## E -/
set_option maxRecDepth 100000 in
set_option maxHeartbeats 2000000 in
theorem dropFn_E (w : World) (k : K2) (e : Ev) (he : e.ok w) (p3 : Nat) (f : Value) (p : Nat) (tick : Int) (hr : ReadyE p tick w f) (h3 : Blk w p3 32 #[f]) :
    Calls Try.prog 42 #[enc2 k, e.val, .pointer (some ⟨p3, 0, none⟩)] w fun en w' => en = .returned (.bool (goneE tick e)) ∧ Fr No w w' := by
  have HR := hid hr
  have HE := hid he
  obtain ⟨rfl, _⟩ := hr
  have HP := hid (fun (w' : World) (hf : Fr No w w') => show Calls Try.prog 31 #[e.val, .pointer (some ⟨p, 0, none⟩)] w' fun en w'' => en = .returned (.bool (goneE tick e)) ∧ Fr No w' w'' from by
    have hr' := HR.out.keep hf (fun _ _ _ _ => not_no _) trivial
    exact predE_c w' e (HE.out.keep hf) p tick (hr'.2.cell 0))
  obtain ⟨A, c, Ac, nc, cc, Ax, nx, cx, hv, hvc, hvx⟩ := Ev.slice he
  obtain ⟨a0, a1, a2, a3, a4, cd, cv, ex, xv, ns, nv⟩ := e
  replace hv : nv = .slice A ns.length c := hv
  replace hvc : cv = .slice Ac nc cc := hvc
  replace hvx : xv = .slice Ax nx cx := hvx
  subst hv hvc hvx
  obtain ⟨k0, k1⟩ := k
  have h3' := ((h3.alloc (.cells #[.int .i64 k0, .int .i64 k1] 72)).alloc (.cells #[.int .i64 a0, .int .i64 a1, .int .i64 a2, .int .i64 a3, .int .i64 a4, .slice Ac nc cc, .slice Ax nx cx, .slice A ns.length c] 28)).cell 0
  clear h3 he HR HE
  unfold enc2
  rw [show (Ev.mk a0 a1 a2 a3 a4 cd (.slice Ac nc cc) ex (.slice Ax nx cx) ns (.slice A ns.length c)).val = .agg #[.int .i64 a0, .int .i64 a1, .int .i64 a2, .int .i64 a3, .int .i64 a4, .slice Ac nc cc, .slice Ax nx cx, .slice A ns.length c] from rfl] at HP ⊢
  dsimp only
  go_enter Try.func42, Try.ntmps42
  go_wp2_with fail
  refine (HP.out _ (((Fr.refl No w).alloc _).alloc _)).mono ?_
  rintro en w1 ⟨rfl, f1⟩
  have F1 := hid ((((Fr.refl No w).alloc _).alloc _).fresh_no f1)
  clear f1
  go_wp2_with fail
  go_ret
  exact ⟨rfl, F1.out⟩
set_option maxRecDepth 100000 in
set_option maxHeartbeats 2000000 in
theorem del_E (w : World) (b : Nat) (ms : List (K2 × Ev)) (p3 : Nat) (f : Value) (p : Nat) (tick : Int) (hm : MapAt enc2 w b (valsE ms)) (hro : ∀ p ∈ ms, p.2.ok w) (hr : ReadyE p tick w f)  (h3 : Blk w p3 32 #[f]) :
    Calls Try.prog 41 #[.map (some b), .func (.func 42) #[] #[.pointer (some ⟨p3, 0, none⟩)]] w fun en w' =>
      en = .returned (.tuple #[]) ∧ MapAt enc2 w' b (valsE (ms.filter (fun p => !goneE tick p.2))) ∧ Fr (fun x => x = b) w w' := by
  obtain ⟨it, hrng, hit⟩ := run_rangeK (P := Try.prog) (T := 64) (K := 72) (E := 28) (enc := enc2) Try.underlying64 hm
  have hnd : (ms.map (·.1)).Nodup := by have := hm.nodup; rwa [valsE_keys] at this
  have HN := hid hnd
  have HIT := hid hit
  have HBL := hid hm.lt
  have HR := hid hr
  have HRO := hid hro
  have H3 := hid h3
  have HCF := hid (cells_not_map hm)
  have HPB := hid (fun (x : Nat) (t : TypeId) (cs : Array Value) (h : Blk w x t cs) => h.not_mapK hm)
  clear hnd hit hr h3 hm hro
  go_enter Try.func41, Try.ntmps41
  go_wp2_with fail
  go_loopg [8] (ms.length + 1) (fun q v8 w' => ∃ dn : List K2, q = (toCome dn ms).length + 1 ∧ Hid (IterAt enc2 w' w.heap.size b (valsE (asked (goneE tick) dn ms)) (valsE (toCome dn ms))) ∧ Hid (Fr (fun x => x = b) w w'))
  case atStart => exact ⟨[], by rw [toCome_nil], by rw [toCome_nil, asked_nil]; exact HIT.out, (Fr.refl _ w).alloc _⟩
  case round =>
    obtain ⟨dn, hq, HI, HF⟩ := hrel
    have HQ := hid hq
    clear hq HIT
    rcases HI.out.step keyOK2 0 with ⟨hl, hnext⟩ | ⟨p, hp, w2, hnext, hent, hi2, hf2⟩
    · have HL := hid (valsE_nil hl)
      clear hl
      go_wp2_with fail
      go_end0
      refine ⟨rfl, ?_, HF.out⟩
      rw [← asked_all HL.out]
      exact HI.out.map
    · obtain ⟨⟨k, e⟩, hq, rfl⟩ := valsE_mem hp
      have HM := hid hq
      have HMS := hid (List.mem_filter.1 hq).1
      rw [valsE_filter, toCome_cons] at hi2
      have HI2 := hid hi2
      have FW2 := hid (HF.out.trans hf2 (fun x hx e => absurd hx (by omega)))
      have R2 := hid (HR.out.keep FW2.out (fun x t cs h e => HPB.out x t cs h e) trivial)
      have B3 := hid (H3.out.keep FW2.out (fun e => HPB.out _ _ _ H3.out e))
      have HE2 := hid ((HRO.out _ HMS.out).keep_ FW2.out HCF.out)
      obtain ⟨A, c, Ac, nc, cc, Ax, nx, cx, hv, hvc, hvx⟩ := Ev.slice HE2.out
      obtain ⟨k0, k1⟩ := k
      obtain ⟨a0, a1, a2, a3, a4, cd, cv, ex, xv, ns, nv⟩ := e
      replace hv : nv = .slice A ns.length c := hv
      replace hvc : cv = .slice Ac nc cc := hvc
      replace hvx : xv = .slice Ax nx cx := hvx
      subst hv hvc hvx
      dsimp only at hnext hent
      replace hnext : (Instr.next (.pointer (some ⟨w.heap.size, 0, none⟩)) false 0).run Try.prog wr = .ok (.tuple #[.bool true, .agg #[.int .i64 k0, .int .i64 k1], .agg #[.int .i64 a0, .int .i64 a1, .int .i64 a2, .int .i64 a3, .int .i64 a4, .slice Ac nc cc, .slice Ax nx cx, .slice A ns.length c]]) w2 := hnext
      replace hent : (Instr.entry (.pointer (some ⟨w.heap.size, 0, none⟩))).run Try.prog w2 = .ok (.tuple #[.agg #[.int .i64 k0, .int .i64 k1], .agg #[.int .i64 a0, .int .i64 a1, .int .i64 a2, .int .i64 a3, .int .i64 a4, .slice Ac nc cc, .slice Ax nx cx, .slice A ns.length c]]) w2 := hent
      clear hp hq hi2 hf2
      go_wp2_with fail
      have FX := hid (((Fr.refl No w2).alloc (.cells #[.int .i64 k0, .int .i64 k1] 72)).alloc (.cells #[.int .i64 a0, .int .i64 a1, .int .i64 a2, .int .i64 a3, .int .i64 a4, .slice Ac nc cc, .slice Ax nx cx, .slice A ns.length c] 28))
      have HK := hid ((Blk.new w2 72 #[.int .i64 k0, .int .i64 k1]).alloc (.cells #[.int .i64 a0, .int .i64 a1, .int .i64 a2, .int .i64 a3, .int .i64 a4, .slice Ac nc cc, .slice Ax nx cx, .slice A ns.length c] 28))
      refine (dropFn_E _ (k0, k1) ⟨a0, a1, a2, a3, a4, cd, .slice Ac nc cc, ex, .slice Ax nx cx, ns, .slice A ns.length c⟩ (HE2.out.keep FX.out) p3 f p tick (R2.out.keep FX.out (fun _ _ _ _ => not_no _) trivial) (B3.out.keep FX.out (not_no _))).mono ?_
      rintro en w3 ⟨rfl, f3⟩
      have F3 := hid (FX.out.fresh_no f3)
      have K3' := hid (HK.out.keep f3 (not_no _))
      have n0 := K3'.out.cell 0
      have n1 := K3'.out.cell 1
      have I3 := hid (HI2.out.keep F3.out (not_no _) (not_no _))
      have FW3 := hid (FW2.out.trans F3.out (fun x _ h => absurd h (not_no x)))
      clear hnext hent f3
      cases hg : goneE tick ⟨a0, a1, a2, a3, a4, cd, .slice Ac nc cc, ex, .slice Ax nx cx, ns, .slice A ns.length c⟩ with
      | false =>
        have HG := hid hg
        clear hg
        go_wp2_with fail
        go_roundg ((toCome ((k0, k1) :: dn) ms).length + 1)
        case measure => have := HQ.out; have : (toCome ((k0, k1) :: dn) ms).length < (toCome dn ms).length := toCome_len HM.out; omega
        case rel =>
          refine ⟨(k0, k1) :: dn, rfl, ?_, FW3⟩
          rw [asked_stay (q := ((k0, k1), ⟨a0, a1, a2, a3, a4, cd, .slice Ac nc cc, ex, .slice Ax nx cx, ns, .slice A ns.length c⟩)) HN.out HMS.out HG.out]
          exact I3
      | true =>
        have HG := hid hg
        obtain ⟨w4, hdel, hi4, hf4⟩ := I3.out.del (ty := 0) Try.underlying64 keyOK2 (k0, k1) (by rw [valsE_keys]; intro h; obtain ⟨p, hp, he⟩ := List.mem_map.1 h; have := (List.mem_filter.1 hp).2; simp [he] at this)
        rw [del_valsE] at hi4
        have HI4 := hid hi4
        have FW4 := hid (FW3.out.trans hf4 (fun x _ h => h))
        replace hdel : (Builtin.delete_ #[64, 72] 0 #[.map (some b), .agg #[.int .i64 k0, .int .i64 k1]]).run Try.prog w3 = .ok (.tuple #[]) w4 := hdel
        clear hg hi4 hf4
        go_wp2_with fail
        go_roundg ((toCome ((k0, k1) :: dn) ms).length + 1)
        case measure => have := HQ.out; have : (toCome ((k0, k1) :: dn) ms).length < (toCome dn ms).length := toCome_len HM.out; omega
        case rel =>
          refine ⟨(k0, k1) :: dn, rfl, ?_, FW4⟩
          have := HI4.out
          rw [asked_go (q := ((k0, k1), ⟨a0, a1, a2, a3, a4, cd, .slice Ac nc cc, ex, .slice Ax nx cx, ns, .slice A ns.length c⟩)) HN.out HMS.out HG.out] at this
          exact this
set_option maxRecDepth 100000 in
set_option maxHeartbeats 2000000 in
theorem drop_E {w : World} {g b fb : Nat} {ms : List (K2 × Ev)} {fs : List (Int × Int)} (h : IsC w g b fb ms fs) (f : Value) (p : Nat) (tick : Int) (hr : ReadyE p tick w f) (hml : ms.length ≤ 1000000) :
    Calls Try.prog 30 #[.pointer (some ⟨g, 0, none⟩), f] w fun en w' =>
      en = .returned (.int .i64 ((ms.length : Int) - (ms.filter (fun p => !goneE tick p.2)).length)) ∧ IsC w' g b fb (ms.filter (fun p => !goneE tick p.2)) fs ∧ Fr (fun x => x = b) w w' := by
  have hfl : (ms.filter (fun p => !goneE tick p.2)).length ≤ ms.length := List.length_filter_le _ _
  have HR0 := hid hr
  obtain ⟨hfv, _⟩ := hr
  obtain ⟨W, hW⟩ : ∃ W, w.alloc (.cells #[f] 32) = W := ⟨_, rfl⟩
  have FW := hid (show Fr No w W from hW ▸ (Fr.refl No w).alloc _)
  have H3 := hid (show Blk W w.heap.size 32 #[f] from hW ▸ Blk.new w _ _)
  have H := hid (h.keep FW.out)
  have HR := hid (HR0.out.keep FW.out (fun _ _ _ _ => not_no _) trivial)
  obtain ⟨c0, c1, cf⟩ := H.out.blk.pair
  have hlen := fun ty => run_lenK (P := Try.prog) (T := 64) (K := 72) (E := 28) (ty := ty) Try.underlying64 H.out.map
  rw [valsE_len] at hlen
  subst hfv
  have HW := hid hW
  clear hW h HR0
  go_enter Try.func30, Try.ntmps30
  go_upto_region 1 with fail
  rw [HW.out]
  go_wp2_with fail
  refine (del_E _ b ms w.heap.size _ p tick H.out.map H.out.rows HR.out  H3.out).mono ?_
  rintro en w2 ⟨rfl, m2, f2⟩
  have HT2 := hid (show IsC w2 g b fb (ms.filter (fun p => !goneE tick p.2)) fs from ⟨H.out.blk.keep f2 (fun e => (H.out.blk.not_mapK H.out.map) e), m2, H.out.flo.keep f2 (fun e => H.out.two e.symm), H.out.two, fun p hp => (H.out.rows p (List.mem_filter.1 hp).1).keep_ f2 (cells_not_map H.out.map)⟩)
  have HF2 := hid ((FW.out.mono (S' := fun x => x = b) (fun x _ h => absurd h (not_no x))).trans f2 (fun x _ h => h))
  have hlen2 := fun ty => run_lenK (P := Try.prog) (T := 64) (K := 72) (E := 28) (ty := ty) Try.underlying64 m2
  rw [valsE_len] at hlen2
  clear c0 c1 cf hlen m2 f2
  obtain ⟨c0, c1, cf⟩ := HT2.out.blk.pair
  generalize hk : ms.filter (fun p => !goneE tick p.2) = left at hlen2 HT2 hfl ⊢
  go_wp2_with fail
  go_ret
  exact ⟨by rw [hk]; rfl, by rw [hk]; exact HT2.out, HF2.out⟩
end Go.Proofs.Ytfmoagpfgkokcaa
