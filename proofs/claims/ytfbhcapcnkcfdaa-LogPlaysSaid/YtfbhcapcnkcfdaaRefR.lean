import Derived.Test.YtfbhcapcnkcfdaaRefQ
/-! The contracts of the document's disk, by value. -/
namespace Go.Proofs.Ytfbhcapcnkcfdaa
open Go.RowKit
set_option linter.unusedVariables false
set_option linter.unusedSimpArgs false

/-- a call of the document's disk that tells an error -/
def RetRef (w : World) (u : Value) (d : DSt) (r : DSt × Nat) : Ending → World → Prop := fun e w' => ∃ u', e = .returned (.tuple #[refV r.1 u', .int .i64 r.2]) ∧ RdB w' u' r.1.bytes ∧ Fr No w w' ∧ ((u' = u ∧ r.1.bytes = d.bytes) ∨ Grows w No u')
/-- one without an answer -/
def RetRef0 (w : World) (u : Value) (d d' : DSt) : Ending → World → Prop := fun e w' => ∃ u', e = .returned (refV d' u') ∧ RdB w' u' d'.bytes ∧ Fr No w w' ∧ ((u' = u ∧ d'.bytes = d.bytes) ∨ Grows w No u')
def RetFirst (w : World) (d' : DSt) : Ending → World → Prop := fun e w' => ∃ u', e = .returned (refV d' u') ∧ RdB w' u' d'.bytes ∧ Fr No w w' ∧ Grows w No u'
theorem two_new (w : World) (t : TypeId) (cs cs' : Array Value) : Blk ((w.alloc (.cells cs t)).alloc (.cells cs' t)) w.heap.size t cs ∧ Blk ((w.alloc (.cells cs t)).alloc (.cells cs' t)) (w.heap.size + 1) t cs' ∧ Fr No w ((w.alloc (.cells cs t)).alloc (.cells cs' t)) := by
  refine ⟨(Blk.new w t cs).alloc _, ?_, ((Fr.refl No w).alloc _).alloc _⟩
  have h := Blk.new (w.alloc (.cells cs t)) t cs'
  rwa [show (w.alloc (.cells cs t)).heap.size = w.heap.size + 1 by simp] at h
theorem Blk.store5 {w : World} {g : Nat} {t : TypeId} {c0 c1 c2 c3 c4 : Value} (h : Blk w g t #[c0, c1, c2, c3, c4]) (v0 v1 v2 v3 v4 : Value) :
    Blk (((((w.setCell ⟨g, 0, none⟩ v0).setCell ⟨g, 1, none⟩ v1).setCell ⟨g, 2, none⟩ v2).setCell ⟨g, 3, none⟩ v3).setCell ⟨g, 4, none⟩ v4) g t #[v0, v1, v2, v3, v4] := by
  have h5 := ((((h.set_ 0 v0).set_ 1 v1).set_ 2 v2).set_ 3 v3).set_ 4 v4
  simpa using h5
theorem RdB.old {w : World} {v : Value} {xs : List UInt8} (h : RdB w v xs) (h0 : 0 < xs.length) : ∀ k, Of v k → k < w.heap.size := by
  obtain ⟨A, c, rfl, hc, hl, hr⟩ := h
  obtain ⟨b, off, rfl, hb, _⟩ := hr h0
  intro k hk
  rw [Of_some.1 hk]
  exact hb
theorem RdB.fr {w w' : World} {v : Value} {xs : List UInt8} (h : RdB w v xs) (hf : Fr No w w') : RdB w' v xs := h.keep hf (fun k _ => not_no k)

set_option maxRecDepth 100000 in
set_option maxHeartbeats 1000000 in
theorem sync_ref (w : World) (d : DSt) (u : Value) (hu : RdB w u d.bytes) (h1 : -1 ≤ d.arm) (h2 : d.arm ≤ 9223372036854775807) (r : DSt × Nat) (hr : syncD d = r) :
    Calls Try.prog 51 #[refV d u] w (RetRef w u d r) := by
  obtain ⟨A, c, rfl, hc⟩ := hu.slice
  obtain ⟨most, bytes, synced, arm, down⟩ := d
  have HU := hid (show RdB w (.slice A bytes.length c) bytes from hu)
  replace hc : bytes.length ≤ c := hc
  replace h1 : -1 ≤ arm := h1
  replace h2 : arm ≤ 9223372036854775807 := h2
  clear hu
  unfold refV
  show Calls _ _ #[.agg #[.int .i64 most, .slice A bytes.length c, .int .i64 synced, .int .i64 arm, .bool down]] w _
  cases down
  · by_cases c0 : arm = 0
    · subst c0
      have hr2 : r = (⟨most, bytes, synced, -1, true⟩, 15) := by rw [← hr]; rfl
      subst hr2
      clear hr
      obtain ⟨B1, B2, F0⟩ := two_new w 49 #[.int .i64 most, .slice A bytes.length c, .int .i64 synced, .int .i64 0, .bool false] #[.int .i64 0, .slice none 0 0, .int .i64 0, .int .i64 0, .bool false]
      have HB1 := hid B1
      have HB2 := hid B2
      have HF0 := hid F0
      clear B1 B2 F0
      go_enter Try.func51, Try.ntmps51
      go_wp2_with fail
      refine (operation_ref' _ most synced 0 A bytes.length c false (by omega) (by omega) (-1) true false (by rfl) (by simp) (by simp)).mono ?_
      rintro e w1 ⟨rfl, F1⟩
      have C1 := hid (HB1.out.keep F1 (not_no _))
      have C2 := hid (HB2.out.keep F1 (not_no _))
      have HF1 := hid (HF0.out.fresh_no F1)
      obtain ⟨a0, a1, a2, a3, a4, af⟩ := C1.out.five
      obtain ⟨b0, b1, b2, b3, b4, bf⟩ := C2.out.five
      clear F1
      go_wp2_with fail
      refine ⟨rfl, ?_⟩
      refine ⟨.tuple #[.agg #[.int .i64 most, .slice A bytes.length c, .int .i64 synced, .int .i64 (-1), .bool true], .int .i64 15], ?_, ?_⟩
      · have hres : Try.f51.results = #[.cell 2 49, .tmp 3] := rfl
        simp [results, hres, asAddr]
        try go_simp
      · refine ⟨_, rfl, HU.out.fr ?_, ?_, .inl ⟨rfl, rfl⟩⟩ <;>
          (repeat (first | refine Fr.setCell ?_ (fun h => absurd h (by simp)) _ | refine Fr.alloc ?_ _)) <;> first | exact HF1.out | exact HF0.out | exact Fr.refl No w
    · obtain ⟨am, ham⟩ : ∃ am, max (arm - 1) (-1) = am := ⟨_, rfl⟩
      have HAM := hid ham
      clear ham
      have hr2 : r = (⟨most, bytes, bytes.length, am, false⟩, 0) := by rw [← hr, ← HAM.out]; unfold syncD operD; simp [c0]
      subst hr2
      clear hr
      obtain ⟨B1, B2, F0⟩ := two_new w 49 #[.int .i64 most, .slice A bytes.length c, .int .i64 synced, .int .i64 arm, .bool false] #[.int .i64 0, .slice none 0 0, .int .i64 0, .int .i64 0, .bool false]
      have HB1 := hid B1
      have HB2 := hid B2
      have HF0 := hid F0
      clear B1 B2 F0
      go_enter Try.func51, Try.ntmps51
      go_wp2_with fail
      refine (operation_ref' _ most synced arm A bytes.length c false (by omega) (by omega) am false true HAM.out (by simp [c0]) (by simp [c0])).mono ?_
      rintro e w1 ⟨rfl, F1⟩
      have C1 := hid (HB1.out.keep F1 (not_no _))
      have C2 := hid (HB2.out.keep F1 (not_no _))
      have HF1 := hid (HF0.out.fresh_no F1)
      obtain ⟨a0, a1, a2, a3, a4, af⟩ := C1.out.five
      obtain ⟨b0, b1, b2, b3, b4, bf⟩ := C2.out.five
      clear F1
      have h5 := (C1.out.store5 (.int .i64 most) (.slice A bytes.length c) (.int .i64 synced) (.int .i64 am) (.bool false)).set_ 2 (.int .i64 bytes.length)
      have k22 := h5.cell 2
      have HC := hid hc
      clear h5 h1 h2 c0 hc
      replace k22 : _ = some (Value.int .i64 bytes.length) := k22
      go_wp2_with fail
      refine ⟨rfl, ?_⟩
      refine ⟨.tuple #[.agg #[.int .i64 most, .slice A bytes.length c, .int .i64 bytes.length, .int .i64 am, .bool false], .int .i64 0], ?_, ?_⟩
      · have hres : Try.f51.results = #[.cell 2 49, .tmp 3] := rfl
        simp [results, hres, asAddr]
        try go_simp
      · refine ⟨_, rfl, HU.out.fr ?_, ?_, .inl ⟨rfl, rfl⟩⟩ <;>
          (repeat (first | refine Fr.setCell ?_ (fun h => absurd h (by simp)) _ | refine Fr.alloc ?_ _)) <;> first | exact HF1.out | exact HF0.out | exact Fr.refl No w
  · have hr2 : r = (⟨most, bytes, synced, arm, true⟩, 15) := by rw [← hr]; rfl
    subst hr2
    clear hr
    obtain ⟨B1, B2, F0⟩ := two_new w 49 #[.int .i64 most, .slice A bytes.length c, .int .i64 synced, .int .i64 arm, .bool true] #[.int .i64 0, .slice none 0 0, .int .i64 0, .int .i64 0, .bool false]
    have HB1 := hid B1
    have HB2 := hid B2
    have HF0 := hid F0
    clear B1 B2 F0
    go_enter Try.func51, Try.ntmps51
    go_wp2_with fail
    refine ⟨rfl, ?_⟩
    refine ⟨.tuple #[.agg #[.int .i64 most, .slice A bytes.length c, .int .i64 synced, .int .i64 arm, .bool true], .int .i64 15], ?_, ?_⟩
    · have hres : Try.f51.results = #[.cell 2 49, .tmp 3] := rfl
      simp [results, hres, asAddr]
      try go_simp
    · refine ⟨_, rfl, HU.out.fr ?_, ?_, .inl ⟨rfl, rfl⟩⟩ <;>
        (repeat (first | refine Fr.setCell ?_ (fun h => absurd h (by simp)) _ | refine Fr.alloc ?_ _)) <;> first | exact HF1.out | exact HF0.out | exact Fr.refl No w

theorem hu_take {w : World} {A : Option Addr} {c : Nat} {xs : List UInt8} (h : RdB w (.slice A xs.length c) xs) {n : Nat} (hn : n ≤ xs.length) : RdB w (.slice A n c) (xs.take n) := by
  obtain ⟨A', c', hv, hc⟩ := h.slice; injection hv with _ _ hcc; subst hcc
  exact h.take hn (by omega)
set_option maxRecDepth 100000 in
set_option maxHeartbeats 1000000 in
theorem first_ref (w : World) (d : DSt) (u : Value) (hu : RdB w u d.bytes) (hl : d.bytes.length ≤ 140737488355328) (n : Nat) (hn : n ≤ d.bytes.length) :
    Calls Try.prog 52 #[refV d u, .int .i64 n] w (RetFirst w { d with bytes := d.bytes.take n, synced := n }) := by
  obtain ⟨A, c, rfl, hc⟩ := hu.slice
  obtain ⟨most, bytes, synced, arm, down⟩ := d
  have HU := hid (show RdB w (.slice A bytes.length c) bytes from hu)
  replace hc : bytes.length ≤ c := hc
  clear hu
  unfold refV
  show Calls _ _ #[.agg #[.int .i64 most, .slice A bytes.length c, .int .i64 synced, .int .i64 arm, .bool down], .int .i64 n] w _
  replace hn : n ≤ bytes.length := hn
  replace hl : bytes.length ≤ 140737488355328 := hl
  have HCUT := hid (hu_take HU.out hn)
  have HL := hid (show ([] : List UInt8).length + (bytes.take n).length ≤ 140737488355328 by simp; omega)
  have m0 : (0 : Int) ≤ n := by omega
  have m1 : (n : Int) ≤ c := by omega
  obtain ⟨B1, B2, F0⟩ := two_new w 49 #[.int .i64 most, .slice A bytes.length c, .int .i64 synced, .int .i64 arm, .bool down] #[.int .i64 0, .slice none 0 0, .int .i64 0, .int .i64 0, .bool false]
  have HB1 := hid B1
  have HB2 := hid B2
  have HF0 := hid F0
  clear B1 B2 F0
  go_enter Try.func52, Try.ntmps52
  go_wp2_with (at_builtin; refine wpl_appB _ rfl (.tmp 6) (.tmp 10) _ rfl 5 Try.underlying22 infoU8 _ [] rfl (OwnB.nil _ _) _ (bytes.take n) rfl (HCUT.out.fr HF0.out) HL.out ?_; intro v4 w4 O4 F4 G4; obtain ⟨A4, c4, rfl, hc4⟩ := O4.out.slice; have C1 := hid (HB1.out.keep F4.out (fun h => absurd h Of_none)); have C2 := hid (HB2.out.keep F4.out (fun h => absurd h Of_none)); obtain ⟨a0, a1, a2, a3, a4, af⟩ := C1.out.five; obtain ⟨b0, b1, b2, b3, b4, bf⟩ := C2.out.five)
  have HF1 := hid (HF0.out.fresh_nil F4.out)
  refine ⟨rfl, ?_⟩
  refine ⟨.agg #[.int .i64 most, .slice A4 ([] ++ bytes.take n).length c4, .int .i64 n, .int .i64 arm, .bool down], ?_, ?_⟩
  · have hres : Try.f52.results = #[.cell 4 49] := rfl
    simp [results, hres, asAddr]
    try go_simp
  · refine ⟨_, rfl, O4.out.rd.keep (S := fun k => k = w.heap.size ∨ k = w.heap.size + 1) ?_ ?_, ?_, ?_⟩
    · repeat (first | refine Fr.setCell ?_ ?_ _ | exact Fr.refl _ _)
      all_goals (intro _; simp)
    · rintro k hk (rfl | rfl)
      · exact O4.out.ne_ C1.out (by decide) hk
      · exact O4.out.ne_ C2.out (by decide) hk
    · (repeat (first | refine Fr.setCell ?_ (fun h => absurd h (by simp)) _ | refine Fr.alloc ?_ _)) <;> exact HF1.out
    · intro k hk
      rcases G4.out k hk with h | h
      · exact absurd h Of_none
      · exact .inr (by have := HF0.out.size; omega)

set_option maxRecDepth 100000 in
set_option maxHeartbeats 1000000 in
theorem append_ref (w : World) (d : DSt) (u : Value) (hu : RdB w u d.bytes) (h1 : -1 ≤ d.arm) (h2 : d.arm ≤ 9223372036854775807) (hm : (d.bytes.length : Int) ≤ d.most) (hm2 : d.most ≤ 67108864) (y : Value) (xs : List UInt8) (hy : RdB w y xs) (hyl : xs.length ≤ 140737400000000) (r : DSt × Nat) (hr : appendD d xs = r) :
    Calls Try.prog 31 #[refV d u, y] w (RetRef w u d r) := by
  obtain ⟨A, c, rfl, hc⟩ := hu.slice
  obtain ⟨most, bytes, synced, arm, down⟩ := d
  have HU := hid (show RdB w (.slice A bytes.length c) bytes from hu)
  replace hc : bytes.length ≤ c := hc
  replace h1 : -1 ≤ arm := h1
  replace h2 : arm ≤ 9223372036854775807 := h2
  clear hu
  obtain ⟨Ay, cy, rfl, hcy⟩ := hy.slice
  have HY := hid hy
  clear hy
  replace hm : (bytes.length : Int) ≤ most := hm
  replace hm2 : most ≤ 67108864 := hm2
  unfold refV
  show Calls _ _ #[.agg #[.int .i64 most, .slice A bytes.length c, .int .i64 synced, .int .i64 arm, .bool down], .slice Ay xs.length cy] w _
  cases down
  · by_cases cf : most - bytes.length < xs.length
    · have HX := hid cf
      have hr2 : r = (⟨most, bytes, synced, arm, false⟩, 5) := by rw [← hr]; unfold appendD operD; simp [HX.out]
      subst hr2
      clear hr
      obtain ⟨B1, B2, F0⟩ := two_new w 49 #[.int .i64 most, .slice A bytes.length c, .int .i64 synced, .int .i64 arm, .bool false] #[.int .i64 0, .slice none 0 0, .int .i64 0, .int .i64 0, .bool false]
      have HB1 := hid B1
      have HB2 := hid B2
      have HF0 := hid F0
      clear B1 B2 F0
      go_enter Try.func31, Try.ntmps31
      go_wp2_with fail
      refine ⟨rfl, ?_⟩
      refine ⟨.tuple #[.agg #[.int .i64 most, .slice A bytes.length c, .int .i64 synced, .int .i64 arm, .bool false], .int .i64 5], ?_, ?_⟩
      · have hres : Try.f31.results = #[.cell 4 49, .tmp 5] := rfl
        simp [results, hres, asAddr]
        try go_simp
      · refine ⟨_, rfl, HU.out.fr ?_, ?_, .inl ⟨rfl, rfl⟩⟩ <;>
          (repeat (first | refine Fr.setCell ?_ (fun h => absurd h (by simp)) _ | refine Fr.alloc ?_ _)) <;> first | exact HF1.out | exact HF0.out | exact Fr.refl No w
    · have HX := hid cf
      by_cases c0 : arm = 0
      · subst c0
        have hr2 : r = (⟨most, bytes, synced, -1, true⟩, 15) := by rw [← hr]; unfold appendD operD; simp [HX.out]
        subst hr2
        clear hr
        obtain ⟨B1, B2, F0⟩ := two_new w 49 #[.int .i64 most, .slice A bytes.length c, .int .i64 synced, .int .i64 0, .bool false] #[.int .i64 0, .slice none 0 0, .int .i64 0, .int .i64 0, .bool false]
        have HB1 := hid B1
        have HB2 := hid B2
        have HF0 := hid F0
        clear B1 B2 F0
        go_enter Try.func31, Try.ntmps31
        go_wp2_with fail
        refine (operation_ref' _ most synced 0 A bytes.length c false (by omega) (by omega) (-1) true false (by rfl) (by simp) (by simp)).mono ?_
        rintro e w1 ⟨rfl, F1⟩
        have C1 := hid (HB1.out.keep F1 (not_no _))
        have C2 := hid (HB2.out.keep F1 (not_no _))
        have HF1 := hid (HF0.out.fresh_no F1)
        obtain ⟨a0, a1, a2, a3, a4, af⟩ := C1.out.five
        obtain ⟨b0, b1, b2, b3, b4, bf⟩ := C2.out.five
        clear F1
        go_wp2_with fail
        refine ⟨rfl, ?_⟩
        refine ⟨.tuple #[.agg #[.int .i64 most, .slice A bytes.length c, .int .i64 synced, .int .i64 (-1), .bool true], .int .i64 15], ?_, ?_⟩
        · have hres : Try.f31.results = #[.cell 4 49, .tmp 5] := rfl
          simp [results, hres, asAddr]
          try go_simp
        · refine ⟨_, rfl, HU.out.fr ?_, ?_, .inl ⟨rfl, rfl⟩⟩ <;>
            (repeat (first | refine Fr.setCell ?_ (fun h => absurd h (by simp)) _ | refine Fr.alloc ?_ _)) <;> first | exact HF1.out | exact HF0.out | exact Fr.refl No w
      · obtain ⟨am, ham⟩ : ∃ am, max (arm - 1) (-1) = am := ⟨_, rfl⟩
        have HAM := hid ham
        clear ham
        have hr2 : r = (⟨most, bytes ++ xs, synced, am, false⟩, 0) := by rw [← hr, ← HAM.out]; unfold appendD operD; simp [c0, HX.out]
        subst hr2
        clear hr
        obtain ⟨B1, B2, F0⟩ := two_new w 49 #[.int .i64 most, .slice A bytes.length c, .int .i64 synced, .int .i64 arm, .bool false] #[.int .i64 0, .slice none 0 0, .int .i64 0, .int .i64 0, .bool false]
        have HB1 := hid B1
        have HB2 := hid B2
        have HF0 := hid F0
        clear B1 B2 F0
        go_enter Try.func31, Try.ntmps31
        go_wp2_with fail
        refine (operation_ref' _ most synced arm A bytes.length c false (by omega) (by omega) am false true HAM.out (by simp [c0]) (by simp [c0])).mono ?_
        rintro e w1 ⟨rfl, F1⟩
        have C1 := hid (HB1.out.keep F1 (not_no _))
        have C2 := hid (HB2.out.keep F1 (not_no _))
        have HF1 := hid (HF0.out.fresh_no F1)
        obtain ⟨a0, a1, a2, a3, a4, af⟩ := C1.out.five
        obtain ⟨b0, b1, b2, b3, b4, bf⟩ := C2.out.five
        clear F1
        have HC := hid hc
        clear h1 h2 c0 hc
        have h5 := C1.out.store5 (.int .i64 most) (.slice A bytes.length c) (.int .i64 synced) (.int .i64 am) (.bool false)
        have H5 := hid h5
        clear h5
        have hb1 : ([] : List UInt8).length + bytes.length ≤ 140737488355328 := by simp; omega
        have hb2 : ([] ++ bytes).length + xs.length ≤ 140737488355328 := by simp; omega
        have FS : Fr (fun k => k = w.heap.size) w1 (((((w1.setCell ⟨w.heap.size, 0, none⟩ (.int .i64 most)).setCell ⟨w.heap.size, 1, none⟩ (.slice A bytes.length c)).setCell ⟨w.heap.size, 2, none⟩ (.int .i64 synced)).setCell ⟨w.heap.size, 3, none⟩ (.int .i64 am)).setCell ⟨w.heap.size, 4, none⟩ (.bool false)) := by
          repeat (first | refine Fr.setCell (S := fun k => k = w.heap.size) ?_ (fun _ => rfl) _ | exact Fr.refl _ _)
        have HFS := hid (show Fr No w _ from HF1.out.trans FS (fun k hk e => absurd e (by omega)))
        have D2 := hid (C2.out.keep FS (by omega))
        clear FS
        go_wp2_with (first
          | (at_builtin; refine wpl_appB _ rfl (.tmp 29) (.tmp 31) _ rfl 5 Try.underlying22 infoU8 _ [] rfl (OwnB.nil _ _) _ bytes rfl (HU.out.fr HFS.out) hb1 ?_; intro v4 w4 O4 F4 G4; obtain ⟨A4, c4, rfl, hc4⟩ := O4.out.slice; have E1 := hid (H5.out.keep F4.out (fun h => absurd h Of_none)); have E2 := hid (D2.out.keep F4.out (fun h => absurd h Of_none)); have HF4 := hid (HFS.out.fresh_nil F4.out); have HN4 := hid (show Grows w No (.slice A4 ([] ++ bytes).length c4) from fun k hk => by rcases G4.out k hk with h | h; exact absurd h Of_none; exact .inr (Nat.le_trans HFS.out.size h)))
          | (at_builtin; refine wpl_appB _ rfl (.tmp 33) (.tmp 34) _ rfl 5 Try.underlying22 infoU8 _ ([] ++ bytes) rfl O4.out _ xs rfl (HY.out.fr HF4.out) hb2 ?_; intro v5 w5 O5 F5 G5; obtain ⟨A5, c5, rfl, hc5⟩ := O5.out.slice; have K1 := hid (E1.out.keep F5.out (O4.out.ne_ E1.out (by decide))); have K2 := hid (E2.out.keep F5.out (O4.out.ne_ E2.out (by decide))); have HF5 := hid (HF4.out.trans F5.out (fun k hk h => by rcases HN4.out k h with h2 | h2; exact h2; omega)); have HN5 := hid (HN4.out.trans G5.out HF4.out.size); clear a0 a1 a2 a3 a4 af b0 b1 b2 b3 b4 bf; obtain ⟨a0, a1, a2, a3, a4, af⟩ := K1.out.five; obtain ⟨b0, b1, b2, b3, b4, bf⟩ := K2.out.five))
        refine ⟨rfl, ?_⟩
        refine ⟨.tuple #[.agg #[.int .i64 most, .slice A5 ([] ++ bytes ++ xs).length c5, .int .i64 synced, .int .i64 am, .bool false], .int .i64 0], ?_, ?_⟩
        · have hres : Try.f31.results = #[.cell 4 49, .tmp 5] := rfl
          simp [results, hres, asAddr]
          try go_simp
        · refine ⟨_, rfl, (show RdB w5 (.slice A5 ([] ++ bytes ++ xs).length c5) (bytes ++ xs) from by have h := O5.out.rd; rwa [List.nil_append] at h ⊢).keep (S := fun k => k = w.heap.size ∨ k = w.heap.size + 1) ?_ ?_, ?_, ?_⟩
          · repeat (first | refine Fr.setCell ?_ ?_ _ | exact Fr.refl _ _)
            all_goals (intro _; simp)
          · rintro k hk (rfl | rfl)
            · exact O5.out.ne_ K1.out (by decide) hk
            · exact O5.out.ne_ K2.out (by decide) hk
          · (repeat (first | refine Fr.setCell ?_ (fun h => absurd h (by simp)) _ | refine Fr.alloc ?_ _)) <;> exact HF5.out
          · exact .inr HN5.out
  · have hr2 : r = (⟨most, bytes, synced, arm, true⟩, 15) := by rw [← hr]; rfl
    subst hr2
    clear hr
    obtain ⟨B1, B2, F0⟩ := two_new w 49 #[.int .i64 most, .slice A bytes.length c, .int .i64 synced, .int .i64 arm, .bool true] #[.int .i64 0, .slice none 0 0, .int .i64 0, .int .i64 0, .bool false]
    have HB1 := hid B1
    have HB2 := hid B2
    have HF0 := hid F0
    clear B1 B2 F0
    go_enter Try.func31, Try.ntmps31
    go_wp2_with fail
    refine ⟨rfl, ?_⟩
    refine ⟨.tuple #[.agg #[.int .i64 most, .slice A bytes.length c, .int .i64 synced, .int .i64 arm, .bool true], .int .i64 15], ?_, ?_⟩
    · have hres : Try.f31.results = #[.cell 4 49, .tmp 5] := rfl
      simp [results, hres, asAddr]
      try go_simp
    · refine ⟨_, rfl, HU.out.fr ?_, ?_, .inl ⟨rfl, rfl⟩⟩ <;>
        (repeat (first | refine Fr.setCell ?_ (fun h => absurd h (by simp)) _ | refine Fr.alloc ?_ _)) <;> first | exact HF1.out | exact HF0.out | exact Fr.refl No w

set_option maxRecDepth 100000 in
set_option maxHeartbeats 1000000 in
theorem cut_ref (w : World) (d : DSt) (u : Value) (hu : RdB w u d.bytes) (h1 : -1 ≤ d.arm) (h2 : d.arm ≤ 9223372036854775807) (hl : d.bytes.length ≤ 140737488355328) (n : Int) (r : DSt × Nat) (hr : cutD d n = r) :
    Calls Try.prog 50 #[refV d u, .int .i64 n] w (RetRef w u d r) := by
  obtain ⟨A, c, rfl, hc⟩ := hu.slice
  obtain ⟨most, bytes, synced, arm, down⟩ := d
  have HU := hid (show RdB w (.slice A bytes.length c) bytes from hu)
  replace hc : bytes.length ≤ c := hc
  replace h1 : -1 ≤ arm := h1
  replace h2 : arm ≤ 9223372036854775807 := h2
  clear hu
  replace hl : bytes.length ≤ 140737488355328 := hl
  unfold refV
  show Calls _ _ #[.agg #[.int .i64 most, .slice A bytes.length c, .int .i64 synced, .int .i64 arm, .bool down], .int .i64 n] w _
  cases down
  · by_cases cf : n < 0 ∨ (bytes.length : Int) < n
    · have HX := hid cf
      by_cases cn : n < 0
      · have dn : decide (n < 0) = true := by simpa using cn
        clear cf
        have hr2 : r = (⟨most, bytes, synced, arm, false⟩, 2) := by rw [← hr]; unfold cutD operD; simp [HX.out]
        subst hr2
        clear hr
        obtain ⟨B1, B2, F0⟩ := two_new w 49 #[.int .i64 most, .slice A bytes.length c, .int .i64 synced, .int .i64 arm, .bool false] #[.int .i64 0, .slice none 0 0, .int .i64 0, .int .i64 0, .bool false]
        have HB1 := hid B1
        have HB2 := hid B2
        have HF0 := hid F0
        clear B1 B2 F0
        go_enter Try.func50, Try.ntmps50
        go_wp2_with fail
        refine ⟨rfl, ?_⟩
        refine ⟨.tuple #[.agg #[.int .i64 most, .slice A bytes.length c, .int .i64 synced, .int .i64 arm, .bool false], .int .i64 2], ?_, ?_⟩
        · have hres : Try.f50.results = #[.cell 4 49, .tmp 5] := rfl
          simp [results, hres, asAddr]
          try go_simp
        · refine ⟨_, rfl, HU.out.fr ?_, ?_, .inl ⟨rfl, rfl⟩⟩ <;>
            (repeat (first | refine Fr.setCell ?_ (fun h => absurd h (by simp)) _ | refine Fr.alloc ?_ _)) <;> first | exact HF1.out | exact HF0.out | exact Fr.refl No w
      · have dn : decide (n < 0) = false := by simpa using cn
        have cb : (bytes.length : Int) < n := by omega
        clear cf
        have hr2 : r = (⟨most, bytes, synced, arm, false⟩, 2) := by rw [← hr]; unfold cutD operD; simp [HX.out]
        subst hr2
        clear hr
        obtain ⟨B1, B2, F0⟩ := two_new w 49 #[.int .i64 most, .slice A bytes.length c, .int .i64 synced, .int .i64 arm, .bool false] #[.int .i64 0, .slice none 0 0, .int .i64 0, .int .i64 0, .bool false]
        have HB1 := hid B1
        have HB2 := hid B2
        have HF0 := hid F0
        clear B1 B2 F0
        go_enter Try.func50, Try.ntmps50
        go_wp2_with fail
        refine ⟨rfl, ?_⟩
        refine ⟨.tuple #[.agg #[.int .i64 most, .slice A bytes.length c, .int .i64 synced, .int .i64 arm, .bool false], .int .i64 2], ?_, ?_⟩
        · have hres : Try.f50.results = #[.cell 4 49, .tmp 5] := rfl
          simp [results, hres, asAddr]
          try go_simp
        · refine ⟨_, rfl, HU.out.fr ?_, ?_, .inl ⟨rfl, rfl⟩⟩ <;>
            (repeat (first | refine Fr.setCell ?_ (fun h => absurd h (by simp)) _ | refine Fr.alloc ?_ _)) <;> first | exact HF1.out | exact HF0.out | exact Fr.refl No w
    · have HX := hid cf
      have dn : decide (n < 0) = false := by simp; omega
      have cb : ¬ (bytes.length : Int) < n := by omega
      clear cf
      by_cases c0 : arm = 0
      · subst c0
        have hr2 : r = (⟨most, bytes, synced, -1, true⟩, 15) := by rw [← hr]; unfold cutD operD; simp [HX.out]
        subst hr2
        clear hr
        obtain ⟨B1, B2, F0⟩ := two_new w 49 #[.int .i64 most, .slice A bytes.length c, .int .i64 synced, .int .i64 0, .bool false] #[.int .i64 0, .slice none 0 0, .int .i64 0, .int .i64 0, .bool false]
        have HB1 := hid B1
        have HB2 := hid B2
        have HF0 := hid F0
        clear B1 B2 F0
        go_enter Try.func50, Try.ntmps50
        go_wp2_with fail
        refine (operation_ref' _ most synced 0 A bytes.length c false (by omega) (by omega) (-1) true false (by rfl) (by simp) (by simp)).mono ?_
        rintro e w1 ⟨rfl, F1⟩
        have C1 := hid (HB1.out.keep F1 (not_no _))
        have C2 := hid (HB2.out.keep F1 (not_no _))
        have HF1 := hid (HF0.out.fresh_no F1)
        obtain ⟨a0, a1, a2, a3, a4, af⟩ := C1.out.five
        obtain ⟨b0, b1, b2, b3, b4, bf⟩ := C2.out.five
        clear F1
        go_wp2_with fail
        refine ⟨rfl, ?_⟩
        refine ⟨.tuple #[.agg #[.int .i64 most, .slice A bytes.length c, .int .i64 synced, .int .i64 (-1), .bool true], .int .i64 15], ?_, ?_⟩
        · have hres : Try.f50.results = #[.cell 4 49, .tmp 5] := rfl
          simp [results, hres, asAddr]
          try go_simp
        · refine ⟨_, rfl, HU.out.fr ?_, ?_, .inl ⟨rfl, rfl⟩⟩ <;>
            (repeat (first | refine Fr.setCell ?_ (fun h => absurd h (by simp)) _ | refine Fr.alloc ?_ _)) <;> first | exact HF1.out | exact HF0.out | exact Fr.refl No w
      · obtain ⟨am, ham⟩ : ∃ am, max (arm - 1) (-1) = am := ⟨_, rfl⟩
        have HAM := hid ham
        clear ham
        have hr2 : r = (⟨most, bytes.take n.toNat, n.toNat, am, false⟩, 0) := by rw [← hr, ← HAM.out]; unfold cutD operD; simp [c0, HX.out]
        subst hr2
        clear hr
        obtain ⟨B1, B2, F0⟩ := two_new w 49 #[.int .i64 most, .slice A bytes.length c, .int .i64 synced, .int .i64 arm, .bool false] #[.int .i64 0, .slice none 0 0, .int .i64 0, .int .i64 0, .bool false]
        have HB1 := hid B1
        have HB2 := hid B2
        have HF0 := hid F0
        clear B1 B2 F0
        go_enter Try.func50, Try.ntmps50
        go_wp2_with fail
        refine (operation_ref' _ most synced arm A bytes.length c false (by omega) (by omega) am false true HAM.out (by simp [c0]) (by simp [c0])).mono ?_
        rintro e w1 ⟨rfl, F1⟩
        have C1 := hid (HB1.out.keep F1 (not_no _))
        have C2 := hid (HB2.out.keep F1 (not_no _))
        have HF1 := hid (HF0.out.fresh_no F1)
        obtain ⟨a0, a1, a2, a3, a4, af⟩ := C1.out.five
        obtain ⟨b0, b1, b2, b3, b4, bf⟩ := C2.out.five
        clear F1
        have HC := hid hc
        clear h1 h2 c0 hc
        obtain ⟨k, rfl⟩ : ∃ k : Nat, n = k := ⟨n.toNat, by have := HX.out; omega⟩
        have HK := hid (show k ≤ bytes.length from by have := HX.out; omega)
        rw [Int.toNat_natCast]
        have h5 := C1.out.store5 (.int .i64 most) (.slice A bytes.length c) (.int .i64 synced) (.int .i64 am) (.bool false)
        have FS : Fr (fun k => k = w.heap.size) w1 (((((w1.setCell ⟨w.heap.size, 0, none⟩ (.int .i64 most)).setCell ⟨w.heap.size, 1, none⟩ (.slice A bytes.length c)).setCell ⟨w.heap.size, 2, none⟩ (.int .i64 synced)).setCell ⟨w.heap.size, 3, none⟩ (.int .i64 am)).setCell ⟨w.heap.size, 4, none⟩ (.bool false)) := by
          repeat (first | refine Fr.setCell (S := fun k => k = w.heap.size) ?_ (fun _ => rfl) _ | exact Fr.refl _ _)
        have HFS := hid (show Fr No w _ from HF1.out.trans FS (fun k hk e => absurd e (by omega)))
        have D2 := hid (C2.out.keep FS (by omega))
        clear FS h5
        go_wp2_with fail
        refine (first_ref _ ⟨most, bytes, synced, am, false⟩ (.slice A bytes.length c) (HU.out.fr HFS.out) hl k HK.out).mono ?_
        rintro e w2 ⟨u2, rfl, R2, F2, G2⟩
        obtain ⟨A2, c2, rfl, hc2⟩ := R2.slice
        have HF2 := hid (HFS.out.fresh_no F2)
        have E2 := hid (D2.out.keep F2 (not_no _))
        have HR2 := hid R2
        have HCL := hid (show 0 < (bytes.take k).length → ∀ q, Of (.slice A2 (bytes.take k).length c2) q → q ≠ w.heap.size + 1 from fun h0 q hq e => by
          rcases G2 q hq with h | h
          · exact absurd h (not_no _)
          · have := D2.out.lt
            omega)
        have HG2 := hid (show Grows w No (.slice A2 (bytes.take k).length c2) from fun q hq => (G2 q hq).imp id (fun h => Nat.le_trans HFS.out.size h))
        clear a0 a1 a2 a3 a4 af b0 b1 b2 b3 b4 bf F2 R2 G2
        obtain ⟨b0, b1, b2, b3, b4, bf⟩ := E2.out.five
        unfold refV
        go_wp2_with fail
        refine ⟨rfl, ?_⟩
        refine ⟨.tuple #[.agg #[.int .i64 most, .slice A2 (bytes.take k).length c2, .int .i64 k, .int .i64 am, .bool false], .int .i64 0], ?_, ?_⟩
        · have hres : Try.f50.results = #[.cell 4 49, .tmp 5] := rfl
          simp [results, hres, asAddr]
          try go_simp
        · refine ⟨_, rfl, HR2.out.keep_ (S := fun k => k = w.heap.size + 1) ?_ ?_, ?_, .inr HG2.out⟩
          · repeat (first | refine Fr.setCell ?_ ?_ _ | exact Fr.refl _ _)
            all_goals (intro _; rfl)
          · rintro h0 q hq rfl
            exact HCL.out h0 _ hq rfl
          · (repeat (first | refine Fr.setCell ?_ (fun h => absurd h (by simp)) _ | refine Fr.alloc ?_ _)) <;> exact HF2.out
  · have hr2 : r = (⟨most, bytes, synced, arm, true⟩, 15) := by rw [← hr]; rfl
    subst hr2
    clear hr
    obtain ⟨B1, B2, F0⟩ := two_new w 49 #[.int .i64 most, .slice A bytes.length c, .int .i64 synced, .int .i64 arm, .bool true] #[.int .i64 0, .slice none 0 0, .int .i64 0, .int .i64 0, .bool false]
    have HB1 := hid B1
    have HB2 := hid B2
    have HF0 := hid F0
    clear B1 B2 F0
    go_enter Try.func50, Try.ntmps50
    go_wp2_with fail
    refine ⟨rfl, ?_⟩
    refine ⟨.tuple #[.agg #[.int .i64 most, .slice A bytes.length c, .int .i64 synced, .int .i64 arm, .bool true], .int .i64 15], ?_, ?_⟩
    · have hres : Try.f50.results = #[.cell 4 49, .tmp 5] := rfl
      simp [results, hres, asAddr]
      try go_simp
    · refine ⟨_, rfl, HU.out.fr ?_, ?_, .inl ⟨rfl, rfl⟩⟩ <;>
        (repeat (first | refine Fr.setCell ?_ (fun h => absurd h (by simp)) _ | refine Fr.alloc ?_ _)) <;> first | exact HF1.out | exact HF0.out | exact Fr.refl No w

set_option maxRecDepth 100000 in
set_option maxHeartbeats 1000000 in
theorem arm_ref (w : World) (d : DSt) (u : Value) (hu : RdB w u d.bytes) (n : Int) (r : DSt) (hr : armD d n = r) :
    Calls Try.prog 29 #[refV d u, .int .i64 n] w (RetRef0 w u d r) := by
  obtain ⟨A, c, rfl, hc⟩ := hu.slice
  obtain ⟨most, bytes, synced, arm, down⟩ := d
  have HU := hid (show RdB w (.slice A bytes.length c) bytes from hu)
  replace hc : bytes.length ≤ c := hc
  clear hu
  unfold refV
  show Calls _ _ #[.agg #[.int .i64 most, .slice A bytes.length c, .int .i64 synced, .int .i64 arm, .bool down], .int .i64 n] w _
  cases down
  · by_cases cn : n < 0
    · have hr2 : r = ⟨most, bytes, synced, 0, false⟩ := by rw [← hr]; unfold armD; rw [if_neg (by simp)]; congr 1; omega
      subst hr2
      clear hr
      obtain ⟨B1, B2, F0⟩ := two_new w 49 #[.int .i64 most, .slice A bytes.length c, .int .i64 synced, .int .i64 arm, .bool false] #[.int .i64 0, .slice none 0 0, .int .i64 0, .int .i64 0, .bool false]
      have HB1 := hid B1
      have HB2 := hid B2
      have HF0 := hid F0
      clear B1 B2 F0
      go_enter Try.func29, Try.ntmps29
      go_wp2_with fail
      refine ⟨rfl, ?_⟩
      refine ⟨.agg #[.int .i64 most, .slice A bytes.length c, .int .i64 synced, .int .i64 0, .bool false], ?_, ?_⟩
      · have hres : Try.f29.results = #[.cell 4 49] := rfl
        simp [results, hres, asAddr]
        try go_simp
      · refine ⟨_, rfl, HU.out.fr ?_, ?_, .inl ⟨rfl, rfl⟩⟩ <;>
          (repeat (first | refine Fr.setCell ?_ (fun h => absurd h (by simp)) _ | refine Fr.alloc ?_ _)) <;> first | exact HF1.out | exact HF0.out | exact Fr.refl No w
    · have hr2 : r = ⟨most, bytes, synced, n, false⟩ := by rw [← hr]; unfold armD; rw [if_neg (by simp)]; congr 1; omega
      subst hr2
      clear hr
      obtain ⟨B1, B2, F0⟩ := two_new w 49 #[.int .i64 most, .slice A bytes.length c, .int .i64 synced, .int .i64 arm, .bool false] #[.int .i64 0, .slice none 0 0, .int .i64 0, .int .i64 0, .bool false]
      have HB1 := hid B1
      have HB2 := hid B2
      have HF0 := hid F0
      clear B1 B2 F0
      go_enter Try.func29, Try.ntmps29
      go_wp2_with fail
      refine ⟨rfl, ?_⟩
      refine ⟨.agg #[.int .i64 most, .slice A bytes.length c, .int .i64 synced, .int .i64 n, .bool false], ?_, ?_⟩
      · have hres : Try.f29.results = #[.cell 4 49] := rfl
        simp [results, hres, asAddr]
        try go_simp
      · refine ⟨_, rfl, HU.out.fr ?_, ?_, .inl ⟨rfl, rfl⟩⟩ <;>
          (repeat (first | refine Fr.setCell ?_ (fun h => absurd h (by simp)) _ | refine Fr.alloc ?_ _)) <;> first | exact HF1.out | exact HF0.out | exact Fr.refl No w
  · have hr2 : r = ⟨most, bytes, synced, arm, true⟩ := by rw [← hr]; rfl
    subst hr2
    clear hr
    obtain ⟨B1, B2, F0⟩ := two_new w 49 #[.int .i64 most, .slice A bytes.length c, .int .i64 synced, .int .i64 arm, .bool true] #[.int .i64 0, .slice none 0 0, .int .i64 0, .int .i64 0, .bool false]
    have HB1 := hid B1
    have HB2 := hid B2
    have HF0 := hid F0
    clear B1 B2 F0
    go_enter Try.func29, Try.ntmps29
    go_wp2_with fail
    refine ⟨rfl, ?_⟩
    refine ⟨.agg #[.int .i64 most, .slice A bytes.length c, .int .i64 synced, .int .i64 arm, .bool true], ?_, ?_⟩
    · have hres : Try.f29.results = #[.cell 4 49] := rfl
      simp [results, hres, asAddr]
      try go_simp
    · refine ⟨_, rfl, HU.out.fr ?_, ?_, .inl ⟨rfl, rfl⟩⟩ <;>
        (repeat (first | refine Fr.setCell ?_ (fun h => absurd h (by simp)) _ | refine Fr.alloc ?_ _)) <;> first | exact HF1.out | exact HF0.out | exact Fr.refl No w

set_option maxRecDepth 100000 in
set_option maxHeartbeats 1000000 in
theorem crash_ref (w : World) (d : DSt) (u : Value) (hu : RdB w u d.bytes) (hs : d.synced ≤ d.bytes.length) (hl : d.bytes.length ≤ 67108864) (n : Int) (r : DSt) (hr : crashD d n = r) :
    Calls Try.prog 30 #[refV d u, .int .i64 n] w (RetRef0 w u d r) := by
  obtain ⟨A, c, rfl, hc⟩ := hu.slice
  obtain ⟨most, bytes, synced, arm, down⟩ := d
  have HU := hid (show RdB w (.slice A bytes.length c) bytes from hu)
  replace hc : bytes.length ≤ c := hc
  clear hu
  unfold refV
  show Calls _ _ #[.agg #[.int .i64 most, .slice A bytes.length c, .int .i64 synced, .int .i64 arm, .bool down], .int .i64 n] w _
  replace hs : synced ≤ bytes.length := hs
  replace hl : bytes.length ≤ 67108864 := hl
  subst hr
  unfold crashD
  obtain ⟨k, hk⟩ : ∃ k, left ⟨most, bytes, synced, arm, down⟩ n = k := ⟨_, rfl⟩
  rw [hk]
  unfold left at hk
  replace hk : synced + (min (max n 0) ((bytes.length : Int) - synced)).toNat = k := hk
  have HK := hid hk
  have hkl : k ≤ bytes.length := by omega
  have hks : synced ≤ k := by omega
  clear hk
  obtain ⟨B1, B2, F0⟩ := two_new w 49 #[.int .i64 most, .slice A bytes.length c, .int .i64 synced, .int .i64 arm, .bool down] #[.int .i64 0, .slice none 0 0, .int .i64 0, .int .i64 0, .bool false]
  have HB1 := hid B1
  have HB2 := hid B2
  have HF0 := hid F0
  clear B1 B2 F0
  go_enter Try.func30, Try.ntmps30
  go_wp2_with fail
  go_loopg [5, 6] (k - synced) (fun q v5 v6 w' => ∃ j m : Nat, v5 = .int .i64 m ∧ v6 = .int .i64 j ∧ m ≤ k ∧ j ≤ m ∧ Hid (m = synced + j) ∧ Hid (q = k - m) ∧ w' = (w.alloc (.cells #[.int .i64 most, .slice A bytes.length c, .int .i64 synced, .int .i64 arm, .bool down] 49)).alloc (.cells #[.int .i64 0, .slice none 0 0, .int .i64 0, .int .i64 0, .bool false] 49))
  case atStart => exact ⟨0, synced, rfl, rfl, hks, by omega, rfl, rfl, rfl⟩
  case round =>
    obtain ⟨j, m, rfl, rfl, hj, hjm, HM, HQ, rfl⟩ := hrel
    by_cases cj : m < k
    · have d1 : decide ((j : Int) < n) = true := by have := HK.out; have := HM.out; simp; omega
      have d2 : m < bytes.length := by omega
      go_wp2_with fail
      go_roundg (k - (m + 1))
      case measure => have := HQ.out; omega
      case rel => exact ⟨j + 1, m + 1, by go_num, by go_num, by omega, by omega, by have := HM.out; unfold Hid; omega, rfl, rfl⟩
    · obtain rfl : m = k := by omega
      have hd : (j : Int) < n → ¬ m < bytes.length := by intro h; have := HK.out; have := HM.out; omega
      by_cases c1 : (j : Int) < n
      · have d1 : decide ((j : Int) < n) = true := by simpa using c1
        have d2 : ¬ m < bytes.length := hd c1
        clear hd
        go_wp2_with fail
        refine (first_ref _ ⟨most, bytes, synced, arm, down⟩ (.slice A bytes.length c) (HU.out.fr HF0.out) (by show bytes.length ≤ _; omega) m hkl).mono ?_
        rintro e w2 ⟨u2, rfl, R2, F2, G2⟩
        obtain ⟨A2, c2, hu2, hc2⟩ := R2.slice
        replace hu2 : u2 = .slice A2 m c2 := by rw [hu2]; congr 1; simp; omega
        subst hu2
        have HF2 := hid (HF0.out.fresh_no F2)
        have E1 := hid (HB1.out.keep F2 (not_no _))
        have E2 := hid (HB2.out.keep F2 (not_no _))
        have HR2 := hid R2
        have HCL := hid (show 0 < (bytes.take m).length → ∀ q, Of (.slice A2 m c2) q → q ≠ w.heap.size + 1 ∧ q ≠ w.heap.size from fun h0 q hq => by
          rcases G2 q hq with h | h
          · exact absurd h (not_no _)
          · have := HB2.out.lt
            omega)
        have HG2 := hid (show Grows w No (.slice A2 m c2) from fun q hq => (G2 q hq).imp id (fun h => Nat.le_trans HF0.out.size h))
        obtain ⟨a0, a1, a2, a3, a4, af⟩ := E1.out.five
        obtain ⟨b0, b1, b2, b3, b4, bf⟩ := E2.out.five
        have h5 := (E1.out.store5 (.int .i64 most) (.slice A2 m c2) (.int .i64 (m : Int)) (.int .i64 arm) (.bool down)).set_ 4 (.bool false)
        have x4 := h5.cell 4
        have x3 := (h5.set_ 3 (.int .i64 (-1))).cell 3
        replace x4 : _ = some (Value.bool false) := x4
        replace x3 : _ = some (Value.int .i64 (-1)) := x3
        clear F2 R2 G2 h5
        unfold refV
        go_wp2_with fail
        refine ⟨rfl, ?_⟩
        refine ⟨.agg #[.int .i64 most, .slice A2 m c2, .int .i64 (m : Int), .int .i64 (-1), .bool false], ?_, ?_⟩
        · have hres : Try.f30.results = #[.cell 4 49] := rfl
          simp [results, hres, asAddr]
          try go_simp
        · refine ⟨_, rfl, HR2.out.keep_ (S := fun k => k = w.heap.size + 1 ∨ k = w.heap.size) ?_ ?_, ?_, .inr HG2.out⟩
          · repeat (first | refine Fr.setCell ?_ ?_ _ | exact Fr.refl _ _)
            all_goals (intro _; simp)
          · rintro h0 q hq (h | h)
            · exact (HCL.out h0 _ hq).1 h
            · exact (HCL.out h0 _ hq).2 h
          · (repeat (first | refine Fr.setCell ?_ (fun h => absurd h (by simp)) _ | refine Fr.alloc ?_ _)) <;> exact HF2.out
      · have d1 : decide ((j : Int) < n) = false := by simpa using c1
        clear hd
        go_wp2_with fail
        refine (first_ref _ ⟨most, bytes, synced, arm, down⟩ (.slice A bytes.length c) (HU.out.fr HF0.out) (by show bytes.length ≤ _; omega) m hkl).mono ?_
        rintro e w2 ⟨u2, rfl, R2, F2, G2⟩
        obtain ⟨A2, c2, hu2, hc2⟩ := R2.slice
        replace hu2 : u2 = .slice A2 m c2 := by rw [hu2]; congr 1; simp; omega
        subst hu2
        have HF2 := hid (HF0.out.fresh_no F2)
        have E1 := hid (HB1.out.keep F2 (not_no _))
        have E2 := hid (HB2.out.keep F2 (not_no _))
        have HR2 := hid R2
        have HCL := hid (show 0 < (bytes.take m).length → ∀ q, Of (.slice A2 m c2) q → q ≠ w.heap.size + 1 ∧ q ≠ w.heap.size from fun h0 q hq => by
          rcases G2 q hq with h | h
          · exact absurd h (not_no _)
          · have := HB2.out.lt
            omega)
        have HG2 := hid (show Grows w No (.slice A2 m c2) from fun q hq => (G2 q hq).imp id (fun h => Nat.le_trans HF0.out.size h))
        obtain ⟨a0, a1, a2, a3, a4, af⟩ := E1.out.five
        obtain ⟨b0, b1, b2, b3, b4, bf⟩ := E2.out.five
        have h5 := (E1.out.store5 (.int .i64 most) (.slice A2 m c2) (.int .i64 (m : Int)) (.int .i64 arm) (.bool down)).set_ 4 (.bool false)
        have x4 := h5.cell 4
        have x3 := (h5.set_ 3 (.int .i64 (-1))).cell 3
        replace x4 : _ = some (Value.bool false) := x4
        replace x3 : _ = some (Value.int .i64 (-1)) := x3
        clear F2 R2 G2 h5
        unfold refV
        go_wp2_with fail
        refine ⟨rfl, ?_⟩
        refine ⟨.agg #[.int .i64 most, .slice A2 m c2, .int .i64 (m : Int), .int .i64 (-1), .bool false], ?_, ?_⟩
        · have hres : Try.f30.results = #[.cell 4 49] := rfl
          simp [results, hres, asAddr]
          try go_simp
        · refine ⟨_, rfl, HR2.out.keep_ (S := fun k => k = w.heap.size + 1 ∨ k = w.heap.size) ?_ ?_, ?_, .inr HG2.out⟩
          · repeat (first | refine Fr.setCell ?_ ?_ _ | exact Fr.refl _ _)
            all_goals (intro _; simp)
          · rintro h0 q hq (h | h)
            · exact (HCL.out h0 _ hq).1 h
            · exact (HCL.out h0 _ hq).2 h
          · (repeat (first | refine Fr.setCell ?_ (fun h => absurd h (by simp)) _ | refine Fr.alloc ?_ _)) <;> exact HF2.out

set_option maxRecDepth 100000 in
set_option maxHeartbeats 1000000 in
theorem rnew_bad (w : World) (n : Int) (h : n < 0 ∨ n > 67108864) : Calls Try.prog 26 #[.int .i64 n] w fun e w' => e = .returned (.tuple #[.agg #[.int .i64 0, .slice none 0 0, .int .i64 0, .int .i64 0, .bool false], .int .i64 2]) ∧ Fr No w w' := by
  by_cases c : n < 0
  · have d1 : decide (n < 0) = true := by simpa using c
    clear h
    go_enter Try.func26, Try.ntmps26
    go_wp2_with fail
    refine ⟨rfl, ?_⟩
    refine ⟨.tuple #[.agg #[.int .i64 0, .slice none 0 0, .int .i64 0, .int .i64 0, .bool false], .int .i64 2], ?_, ?_⟩
    · have hres : Try.f26.results = #[.cell 2 49, .tmp 3] := rfl
      simp [results, hres, asAddr]
      try go_simp
    · exact ⟨rfl, by (repeat (first | refine Fr.setCell ?_ (fun h => absurd h (by simp)) _ | refine Fr.alloc ?_ _)) <;> exact Fr.refl _ _⟩
  · have d1 : decide (n < 0) = false := by simpa using c
    have d2 : 67108864 < n := by omega
    clear h
    go_enter Try.func26, Try.ntmps26
    go_wp2_with fail
    refine ⟨rfl, ?_⟩
    refine ⟨.tuple #[.agg #[.int .i64 0, .slice none 0 0, .int .i64 0, .int .i64 0, .bool false], .int .i64 2], ?_, ?_⟩
    · have hres : Try.f26.results = #[.cell 2 49, .tmp 3] := rfl
      simp [results, hres, asAddr]
      try go_simp
    · exact ⟨rfl, by (repeat (first | refine Fr.setCell ?_ (fun h => absurd h (by simp)) _ | refine Fr.alloc ?_ _)) <;> exact Fr.refl _ _⟩

set_option maxRecDepth 100000 in
set_option maxHeartbeats 1000000 in
theorem rnew_c (w : World) (n : Int) (h0 : 0 ≤ n) (h1 : n ≤ 67108864) : Calls Try.prog 26 #[.int .i64 n] w fun e w' => e = .returned (.tuple #[refV (newD n) (.slice none 0 0), .int .i64 0]) ∧ Fr No w w' := by
  have d1 : decide (n < 0) = false := by simp; omega
  have d2 : ¬ 67108864 < n := by omega
  go_enter Try.func26, Try.ntmps26
  go_wp2_with fail
  refine ⟨rfl, ?_⟩
  refine ⟨.tuple #[.agg #[.int .i64 n, .slice none 0 0, .int .i64 0, .int .i64 (-1), .bool false], .int .i64 0], ?_, ?_⟩
  · have hres : Try.f26.results = #[.cell 2 49, .tmp 3] := rfl
    simp [results, hres, asAddr]
    try go_simp
  · exact ⟨rfl, by (repeat (first | refine Fr.setCell ?_ (fun h => absurd h (by simp)) _ | refine Fr.alloc ?_ _)) <;> exact Fr.refl _ _⟩
end Go.Proofs.Ytfbhcapcnkcfdaa
