import Derived.Test.YtfbhcapcnkcfdaaDiskB
/-! The contracts of package disk: Sync. -/
namespace Go.Proofs.Ytfbhcapcnkcfdaa
open Go.RowKit
set_option linter.unusedVariables false
set_option linter.unusedSimpArgs false

/-- a call that tells an error: the disk is r.1 then -/
def RetD (w : World) (g : Nat) (v : Value) (r : DSt × Nat) : Ending → World → Prop := fun en w' => ∃ v', en = .returned (.int .i64 r.2) ∧ IsDisk w' g v' r.1 ∧ Fr (Its g v) w w' ∧ Grows w (Of v) v'
/-- an operation: what is in its way, what it does -/
def operD (d : DSt) (may : Nat) (do_ : DSt → DSt) : DSt × Nat :=
  if d.down then (d, 15) else if may ≠ 0 then (d, may) else if d.arm = 0 then ({ d with down := true, arm := -1 }, 15) else (do_ { d with arm := max (d.arm - 1) (-1) }, 0)
def syncD (d : DSt) : DSt × Nat := operD d 0 (fun d => { d with synced := d.bytes.length })

set_option maxHeartbeats 400000 in
theorem sync1_c (w : World) : Calls Try.prog 54 #[] w fun e w' => e = .returned (.int .i64 0) ∧ w' = w := by
  go_enter Try.func54, Try.ntmps54
  go_wp2
  go_ret
  exact ⟨rfl, rfl⟩

set_option maxHeartbeats 1000000 in
theorem sync2_c {w : World} {g : Nat} {v : Value} {d : DSt} (h : IsDisk w g v d) (pb : Nat) (hb : w.cell? ⟨pb, 0, none⟩ = some (.pointer (some ⟨g, 0, none⟩))) :
    Calls Try.prog 55 #[.pointer (some ⟨pb, 0, none⟩)] w (RetD0 w g v { d with synced := d.bytes.length }) := by
  obtain ⟨A, c, rfl, hc⟩ := h.own.slice
  have H := hid h
  have k2 := h.c2
  have k3 := h.c3
  have kf := h.blk.frozen
  clear h
  go_enter Try.func55, Try.ntmps55
  go_wp2
  refine wp_region_still_tail 8 (by kernel_rfl) (by kernel_rfl) ?_
  simp only [List.take_succ_cons, List.take_zero, List.drop_succ_cons, List.drop_zero]
  repeat still_step
  refine wpStill_nil ?_
  change wpList _ _ _ _ _ w.drew
  go_wp2
  go_end0
  exact ⟨_, rfl, (H.out.drewN 1).setSync _ (Nat.le_refl _), ((Fr.refl _ w).drewN 1).setCell (fun _ => Its.self g _) _, Grows.self _ _⟩

set_option maxHeartbeats 1000000 in
theorem operation_c {w : World} {g : Nat} {v : Value} {d : DSt} (h : IsDisk w g v d) (fm fd : FuncId) (cm cd : Array Value) (may : Nat) (do_ : DSt → DSt)
    (hcm : ∀ w, (callFunc fm cm).run Try.prog w = .ok (.enter fm cm) w) (hcd : ∀ w, (callFunc fd cd).run Try.prog w = .ok (.enter fd cd) w)
    (hm : Calls Try.prog fm cm w fun e w' => ∃ nq, e = .returned (.int .i64 may) ∧ w' = w.drewN nq)
    (hd : ∀ nq, may = 0 → d.down = false → d.arm ≠ 0 → Calls Try.prog fd cd ((w.drewN nq).setCell ⟨g, 4, none⟩ (.int .i64 (max (d.arm - 1) (-1)))) (RetD0 ((w.drewN nq).setCell ⟨g, 4, none⟩ (.int .i64 (max (d.arm - 1) (-1)))) g v (do_ { d with arm := max (d.arm - 1) (-1) })))
    (r : DSt × Nat) (hr : operD d may do_ = r) :
    Calls Try.prog 42 #[.pointer (some ⟨g, 0, none⟩), .func (.func fm) #[] cm, .func (.func fd) #[] cd] w (RetD w g v r) := by
  have H := hid h
  have k4 := h.c4
  have k5 := h.c5
  have kf := h.blk.frozen
  have HM := hid hm
  have HD := hid hd
  have HR := hid hr
  have ha0 := h.arm0
  have ha1 := h.arm1
  clear h hm hd hr
  obtain ⟨most, bytes, synced, arm, down⟩ := d
  cases down
  · go_enter Try.func42, Try.ntmps42
    go_wp2_with (first
      | (go_at_call 41; refine (none_c H.out).mono ?_; rintro e w1 ⟨rfl, rfl⟩))
    refine HM.out.mono ?_
    rintro e w2 ⟨nq, rfl, rfl⟩
    by_cases c1 : may = 0
    · subst c1
      have hr := HR.out
      unfold operD at hr
      rw [if_neg (by simp), if_neg (by simp)] at hr
      by_cases c2 : arm = 0
      · subst c2
        rw [if_pos rfl] at hr
        have HR2 := hid hr
        clear hr HR HD HM
        go_wp2_with fail
        go_ret
        rw [← HR2.out]
        exact ⟨v, rfl, ((H.out.drewN nq).setDown true).arm (-1) (by omega) (by omega), (((Fr.refl _ w1).drewN nq).setCell (fun _ => Its.self g _) _).setCell (fun _ => Its.self g _) _, Grows.self _ _⟩
      · rw [if_neg c2] at hr
        have HR2 := hid hr
        have kx := fun (w : World) => run_max2 (P := Try.prog) (w := w) (k := .i64) (ats := #[3, 3]) (ty := 3) (arm - 1) (-1)
        have hb : ((arm : Int) == 0) = false := by rw [beq_eq_false_iff_ne]; exact c2
        have hw : IntKind.i64.wrap (arm - 1) = arm - 1 := by rw [IntKind.wrap_i64]; omega
        have HD2 := hid (HD.out nq rfl trivial c2)
        clear hr HR HD HM
        go_wp2_with fail
        refine HD2.out.mono ?_
        rintro e w3 ⟨v3, rfl, I, F, G⟩
        have F3 := hid F
        have I3 := hid I
        clear I F
        go_wp2_with fail
        go_ret
        rw [← HR2.out]
        exact ⟨v3, rfl, I3.out, (((Fr.refl _ w1).drewN nq).setCell (fun _ => Its.self g v) _).trans F3.out (fun k _ h => h), fun k hk => by rcases G k hk with h | h; exact .inl h; exact .inr (by simpa [World.setCell] using h)⟩
    · have hb : ((may : Int) != 0) = true := by rw [bne_iff_ne]; omega
      have hr := HR.out
      unfold operD at hr
      rw [if_neg (by simp), if_pos c1] at hr
      have HR2 := hid hr
      clear hr HR HD HM
      go_wp2_with fail
      go_ret
      rw [← HR2.out]
      exact ⟨v, rfl, H.out.drewN nq, (Fr.refl _ w1).drewN nq, Grows.self _ _⟩
  · go_enter Try.func42, Try.ntmps42
    go_wp2_with (first
      | (go_at_call 41; refine (none_c H.out).mono ?_; rintro e w1 ⟨rfl, rfl⟩))
    go_ret
    have hr := HR.out
    unfold operD at hr
    rw [if_pos rfl] at hr
    subst hr
    exact ⟨v, rfl, H.out, Fr.refl _ _, Grows.self _ _⟩

theorem RetD.alloc {w : World} {o : Obj} {g : Nat} {v : Value} {r : DSt × Nat} {e : Ending} {w' : World} (h : RetD (w.alloc o) g v r e w') : RetD w g v r e w' := by
  obtain ⟨v', he, hd, hf, hg⟩ := h
  exact ⟨v', he, hd, ((Fr.refl (Its g v) w).alloc o).trans hf (fun _ _ h => h), fun k hk => by rcases hg k hk with h | h; exact .inl h; exact .inr (by simp at h; omega)⟩
theorem IsDisk.armed {w : World} {g : Nat} {v : Value} {d : DSt} (h : IsDisk w g v d) : IsDisk (w.setCell ⟨g, 4, none⟩ (.int .i64 (max (d.arm - 1) (-1)))) g v { d with arm := max (d.arm - 1) (-1) } :=
  h.arm _ (by omega) (by have := h.arm1; omega)

set_option maxHeartbeats 1000000 in
theorem sync_c {w : World} {g : Nat} {v : Value} {d : DSt} (h : IsDisk w g v d) (r : DSt × Nat) (hr : syncD d = r) :
    Calls Try.prog 38 #[.pointer (some ⟨g, 0, none⟩)] w (RetD w g v r) := by
  have H := hid h
  have HR := hid hr
  clear h hr
  go_enter Try.func38, Try.ntmps38
  go_wp2_with fail
  refine (operation_c (H.out.keep_no ((Fr.refl No w).alloc _)) _ _ _ _ 0 (fun d => { d with synced := d.bytes.length }) (fun _ => rfl) (fun _ => rfl)
    ((sync1_c _).mono fun e w' h => ⟨0, h.1, h.2⟩)
    (fun nq _ _ _ => sync2_c ((H.out.keep_no ((Fr.refl No w).alloc _)).drewN nq).armed w.heap.size ((((Blk.new w _ _).drewN nq).far (by have := H.out.lt; simp; omega) _).cell 0))
    r HR.out).mono ?_
  rintro e w1 h1
  obtain ⟨v1, rfl, h2⟩ := h1.alloc
  have H2 := hid h2
  clear h1 h2
  go_wp2_with fail
  go_ret
  exact ⟨v1, rfl, H2.out⟩

/-! ## Append -/
def appendD (d : DSt) (xs : List UInt8) : DSt × Nat := operD d (if d.most - d.bytes.length < xs.length then 5 else 0) (fun d => { d with bytes := d.bytes ++ xs })

set_option maxHeartbeats 1000000 in
theorem append1_c {w : World} {g : Nat} {v : Value} {d : DSt} (h : IsDisk w g v d) (y : Value) (xs : List UInt8) (hy : RdB w y xs) (pb pd : Nat) (h1 : w.cell? ⟨pb, 0, none⟩ = some y) (h2 : w.cell? ⟨pd, 0, none⟩ = some (.pointer (some ⟨g, 0, none⟩))) :
    Calls Try.prog 47 #[.pointer (some ⟨pb, 0, none⟩), .pointer (some ⟨pd, 0, none⟩)] w
      fun e w' => ∃ nq, e = .returned (.int .i64 ((if d.most - d.bytes.length < xs.length then 5 else 0 : Nat) : Int)) ∧ w' = w.drewN nq := by
  obtain ⟨A, c, rfl, hc⟩ := h.own.slice
  obtain ⟨A', c', rfl, hc'⟩ := hy.slice
  have k1 := h.c1
  have k2 := h.c2
  have b1 := h.len
  have b2 := h.most1
  have hw : IntKind.i64.wrap (d.most - d.bytes.length) = d.most - d.bytes.length := by rw [IntKind.wrap_i64]; omega
  obtain ⟨rr, hrr⟩ : ∃ rr, (if d.most - d.bytes.length < xs.length then 5 else 0 : Nat) = rr := ⟨_, rfl⟩
  rw [hrr]
  have HR := hid hrr
  clear h hy hrr
  by_cases c1 : d.most - d.bytes.length < xs.length
  · go_enter Try.func47, Try.ntmps47
    go_wp2
    go_quiet (fail)
    go_wp2
    go_ret
    have := HR.out
    rw [if_pos c1] at this
    exact ⟨nq, by rw [← this]; rfl, rfl⟩
  · go_enter Try.func47, Try.ntmps47
    go_wp2
    go_quiet (fail)
    go_wp2
    go_ret
    have := HR.out
    rw [if_neg (by omega)] at this
    exact ⟨nq, by rw [← this]; rfl, rfl⟩

end Go.Proofs.Ytfbhcapcnkcfdaa
