import Derived.Test.YtfbhcapcnkcfdaaDiskA
/-! The contracts of package disk: what arms, what crashes. -/
namespace Go.Proofs.Ytfbhcapcnkcfdaa
open Go.RowKit
set_option linter.unusedVariables false
set_option linter.unusedSimpArgs false

/-- the disk's block, and that of its bytes -/
def Its (g : Nat) (v : Value) : Nat → Prop := fun k => k = g ∨ Of v k
/-- a call without an answer: the disk is d' then -/
def RetD0 (w : World) (g : Nat) (v : Value) (d' : DSt) : Ending → World → Prop := fun en w' => ∃ v', en = .returned (.tuple #[]) ∧ IsDisk w' g v' d' ∧ Fr (Its g v) w w' ∧ Grows w (Of v) v'
def armD (d : DSt) (n : Int) : DSt := if d.down then d else { d with arm := max n 0 }

theorem Fr.one (w : World) (g i : Nat) (u : Value) : Fr (fun k => k = g) w (w.setCell ⟨g, i, none⟩ u) :=
  Fr.setCell (S := fun k => k = g) (Fr.refl _ w) (p := ⟨g, i, none⟩) (fun _ => rfl) u
theorem IsDisk.drewN {w : World} {g : Nat} {v : Value} {d : DSt} (h : IsDisk w g v d) (n : Nat) : IsDisk (w.drewN n) g v d := h.keep_no ((Fr.refl No w).drewN n)
theorem IsDisk.arm {w : World} {g : Nat} {v : Value} {d : DSt} (h : IsDisk w g v d) (m : Int) (h0 : -1 ≤ m) (h1 : m ≤ 9223372036854775807) : IsDisk (w.setCell ⟨g, 4, none⟩ (.int .i64 m)) g v { d with arm := m } :=
  ⟨h.blk.set_ 4 _, h.own.keep (Fr.one _ _ _ _) (fun k hk e => h.ne (e ▸ hk)), h.most0, h.most1, h.len, h.syn, h0, h1⟩
theorem IsDisk.setDown {w : World} {g : Nat} {v : Value} {d : DSt} (h : IsDisk w g v d) (m : Bool) : IsDisk (w.setCell ⟨g, 5, none⟩ (.bool m)) g v { d with down := m } :=
  ⟨h.blk.set_ 5 _, h.own.keep (Fr.one _ _ _ _) (fun k hk e => h.ne (e ▸ hk)), h.most0, h.most1, h.len, h.syn, h.arm0, h.arm1⟩
theorem IsDisk.setSync {w : World} {g : Nat} {v : Value} {d : DSt} (h : IsDisk w g v d) (m : Nat) (hm : m ≤ d.bytes.length) : IsDisk (w.setCell ⟨g, 3, none⟩ (.int .i64 m)) g v { d with synced := m } :=
  ⟨h.blk.set_ 3 _, h.own.keep (Fr.one _ _ _ _) (fun k hk e => h.ne (e ▸ hk)), h.most0, h.most1, h.len, hm, h.arm0, h.arm1⟩
theorem Its.self (g : Nat) (v : Value) : Its g v g := .inl rfl

set_option maxHeartbeats 400000 in
theorem arm_c {w : World} {g : Nat} {v : Value} {d : DSt} (h : IsDisk w g v d) (n : Int) (hn : n ≤ 9223372036854775807) (d' : DSt) (hd : armD d n = d') :
    Calls Try.prog 25 #[.pointer (some ⟨g, 0, none⟩), .int .i64 n] w (RetD0 w g v d') := by
  subst hd
  have H := hid h
  have k5 := h.c5
  have kf := h.blk.frozen
  have k4 := h.c4
  have HN := hid hn
  clear h
  obtain ⟨most, bytes, synced, arm, down⟩ := d
  cases down
  · go_enter Try.func25, Try.ntmps25
    go_wp2_with (first
      | (go_at_call 41; refine (none_c H.out).mono ?_; rintro e w1 ⟨rfl, rfl⟩))
    · go_end0
      refine ⟨v, rfl, ?_, (Fr.refl _ _).setCell (fun _ => Its.self g v) _, Grows.self _ _⟩
      have : armD ⟨most, bytes, synced, arm, false⟩ n = ⟨most, bytes, synced, 0, false⟩ := by unfold armD; rw [if_neg (by simp)]; congr 1; omega
      rw [this]
      exact H.out.arm 0 (by omega) (by omega)
    · go_end0
      refine ⟨v, rfl, ?_, (Fr.refl _ _).setCell (fun _ => Its.self g v) _, Grows.self _ _⟩
      have : armD ⟨most, bytes, synced, arm, false⟩ n = ⟨most, bytes, synced, n, false⟩ := by unfold armD; rw [if_neg (by simp)]; congr 1; omega
      rw [this]
      exact H.out.arm n (by omega) (by omega)
  · go_enter Try.func25, Try.ntmps25
    go_wp2_with (first
      | (go_at_call 41; refine (none_c H.out).mono ?_; rintro e w1 ⟨rfl, rfl⟩))
    go_end0
    exact ⟨v, rfl, H.out, Fr.refl _ _, Grows.self _ _⟩

/-- how many bytes a crash leaves -/
def left (d : DSt) (keep : Int) : Nat := d.synced + (min (max keep 0) ((d.bytes.length : Int) - d.synced)).toNat
def crashD (d : DSt) (keep : Int) : DSt := ⟨d.most, d.bytes.take (left d keep), left d keep, -1, false⟩
theorem left_le {d : DSt} (h : d.synced ≤ d.bytes.length) (keep : Int) : left d keep ≤ d.bytes.length := by unfold left; omega

/-- the first n bytes alone, synced -/
theorem IsDisk.first {w : World} {g : Nat} {A : Option Addr} {c : Nat} {d : DSt} (h : IsDisk w g (.slice A d.bytes.length c) d) (k : Nat) (hk : k ≤ d.bytes.length) :
    IsDisk ((w.setCell ⟨g, 2, none⟩ (.slice A k k)).setCell ⟨g, 3, none⟩ (.int .i64 k)) g (.slice A k k) { d with bytes := d.bytes.take k, synced := k } := by
  have hf : Fr (fun k => k = g) w ((w.setCell ⟨g, 2, none⟩ (.slice A k k)).setCell ⟨g, 3, none⟩ (.int .i64 k)) := (Fr.one _ _ _ _).trans (Fr.one _ _ _ _) (fun k _ h => h)
  have hl : (d.bytes.take k).length = k := by simp; omega
  have := h.len
  refine ⟨(h.blk.set_ 2 _).set_ 3 _, (h.own.cut hk).keep hf (fun k' hk' e => ?_), h.most0, h.most1, by simp only [hl]; omega, by simp only [hl]; omega, h.arm0, h.arm1⟩
  subst e
  refine h.ne ?_
  rcases A with _ | a
  · exact absurd hk' Of_none
  · exact Of_some.2 (Of_some.1 hk')

set_option maxHeartbeats 1000000 in
theorem crash_c {w : World} {g : Nat} {v : Value} {d : DSt} (h : IsDisk w g v d) (n : Int) (d' : DSt) (hd : crashD d n = d') :
    Calls Try.prog 24 #[.pointer (some ⟨g, 0, none⟩), .int .i64 n] w (RetD0 w g v d') := by
  subst hd
  obtain ⟨A, c, rfl, hc⟩ := h.own.slice
  have H := hid h
  have k2 := h.c2
  have k3 := h.c3
  have k4 := h.c4
  have k5 := h.c5
  have kf := h.blk.frozen
  have hs := h.syn
  have hl := left_le hs n
  have hb : (d.bytes.length : Int) ≤ 67108864 := by have := h.len; have := h.most1; omega
  obtain ⟨m, hm⟩ : ∃ m, left d n = m := ⟨_, rfl⟩
  have e1 : (d.synced : Int) + min (max n 0) ((d.bytes.length : Int) - d.synced) = m := by rw [← hm]; unfold left; omega
  have HE := hid e1
  have HM := hid hm
  rw [hm] at hl
  have kx := fun (a b : Int) (w : World) => run_max2 (P := Try.prog) (w := w) (k := .i64) (ats := #[3, 3]) (ty := 3) a b
  have kn := fun (a b : Int) (w : World) => run_min2 (P := Try.prog) (w := w) (k := .i64) (ats := #[3, 3]) (ty := 3) a b
  clear h e1 hm
  go_enter Try.func24, Try.ntmps24
  go_wp2_with (first
      | (go_at_call 41; refine (none_c H.out).mono ?_; rintro e w1 ⟨rfl, rfl⟩))
  go_quiet (fail)
  rw [HE.out]
  have m0 : (0 : Int) ≤ m := by omega
  have m1 : (m : Int) ≤ c := by omega
  go_wp2_with fail
  go_end0
  refine ⟨.slice A m m, rfl, ?_, ?_, ?_⟩
  · have h1 := (((H.out.drewN nq).first m hl).setDown false).arm (-1) (by omega) (by omega)
    have h2 : crashD d n = ⟨d.most, d.bytes.take m, m, -1, false⟩ := by unfold crashD; rw [HM.out]
    rw [h2]
    exact h1
  · exact (((((Fr.refl _ w1).drewN nq).setCell (fun _ => Its.self g _) _).setCell (fun _ => Its.self g _) _).setCell (fun _ => Its.self g _) _).setCell (fun _ => Its.self g _) _
  · intro k hk
    rcases A with _ | a
    · exact absurd hk Of_none
    · exact .inl (Of_some.2 (Of_some.1 hk))
end Go.Proofs.Ytfbhcapcnkcfdaa
