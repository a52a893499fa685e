import Derived.Test.YthcebkbedfaoeaaTellsD
/-! LeaseTells, part five: what Grant refuses, on both sides. -/
namespace Go.Proofs.Ythcebkbedfaoeaa
open Go.RowKit Go.Lib
set_option linter.unusedVariables false
set_option linter.unusedSimpArgs false
attribute [local go_sem ↓] Go.wp_at_zero Go.wp_at_succ
/-- no lease: what Grant tells -/
def Refuses (w : World) (k : Int) (e : Ending) (w' : World) : Prop := e = .returned (.tuple #[zeroL, .int .i64 k]) ∧ Fr No w w'
set_option maxRecDepth 100000 in
set_option maxHeartbeats 1000000 in
theorem grantNode_c {w : World} {g b : Nat} {n l s : Int} {ms : List (K3 × Ls)} (h : IsTab w g b n l s ms) (node version fn epoch tick : Int) (hn : node < 0 ∨ n ≤ node) :
    Calls Try.prog 9 #[.pointer (some ⟨g, 0, none⟩), .int .i64 node, .int .i64 version, .int .i64 fn, .int .i64 epoch, .int .i64 tick] w (Refuses w 152) := by
  have FW := hid ((Fr.refl No w).alloc (.cells #[.int .i64 0, .int .i64 0, .int .i64 0, .int .i64 0, .int .i64 0] 30))
  have H := hid (h.keep FW.out)
  obtain ⟨c0, c1, c2, c3, cf⟩ := H.out.blk.four
  clear h
  have hcs : node < 0 ∨ (¬ node < 0 ∧ n ≤ node) := by omega
  rcases hcs with d1 | ⟨d1, d2⟩
  all_goals
    go_enter Try.func9, Try.ntmps9
    go_wp2_with fail
    refine (right_yes H.out.blk).mono ?_
    rintro e wx ⟨rfl, rfl⟩
    go_wp2_with fail
    refine ⟨rfl, ?_⟩
    refine ⟨.tuple #[zeroL, .int .i64 152], ?_, ?_⟩
    · have hres : Try.f9.results = #[.cell 12 30, .tmp 13] := rfl
      simp [results, hres, asAddr]
      try go_simp
      try rfl
    · refine ⟨rfl, ?_⟩
      repeat (first | refine Fr.setCell ?_ (fun h => absurd h (by simp)) _ | refine Fr.alloc ?_ _ | exact Fr.refl _ _)
set_option maxRecDepth 100000 in
set_option maxHeartbeats 1000000 in
theorem grantArg_c {w : World} {g b : Nat} {n l s : Int} {ms : List (K3 × Ls)} (h : IsTab w g b n l s ms) (node version fn epoch tick : Int) (hn : ¬ (node < 0 ∨ n ≤ node)) (hb : (min (min (min version fn) epoch) tick) < 0 ∨ 1099511627776 < (max (max (max version fn) epoch) tick)) :
    Calls Try.prog 9 #[.pointer (some ⟨g, 0, none⟩), .int .i64 node, .int .i64 version, .int .i64 fn, .int .i64 epoch, .int .i64 tick] w (Refuses w 2) := by
  have FW := hid ((Fr.refl No w).alloc (.cells #[.int .i64 0, .int .i64 0, .int .i64 0, .int .i64 0, .int .i64 0] 30))
  have H := hid (h.keep FW.out)
  obtain ⟨c0, c1, c2, c3, cf⟩ := H.out.blk.four
  clear h
  have d1 : ¬ node < 0 := by omega
  have d2 : ¬ n ≤ node := by omega
  have kn := fun (w : World) => run_min4 (P := Try.prog) (w := w) (k := .i64) (ats := #[3, 3, 3, 3]) (ty := 3) version fn epoch tick
  have kx := fun (w : World) => run_max4 (P := Try.prog) (w := w) (k := .i64) (ats := #[3, 3, 3, 3]) (ty := 3) version fn epoch tick
  generalize (min (min (min version fn) epoch) tick) = m1 at hb kn
  generalize (max (max (max version fn) epoch) tick) = m2 at hb kx
  have hcs : m1 < 0 ∨ (¬ m1 < 0 ∧ 1099511627776 < m2) := by omega
  clear hn hb
  rcases hcs with d3 | ⟨d3, d4⟩
  all_goals
    go_enter Try.func9, Try.ntmps9
    go_wp2_with fail
    refine (right_yes H.out.blk).mono ?_
    rintro e wx ⟨rfl, rfl⟩
    go_wp2_with fail
    refine ⟨rfl, ?_⟩
    refine ⟨.tuple #[zeroL, .int .i64 2], ?_, ?_⟩
    · have hres : Try.f9.results = #[.cell 12 30, .tmp 13] := rfl
      simp [results, hres, asAddr]
      try go_simp
      try rfl
    · refine ⟨rfl, ?_⟩
      repeat (first | refine Fr.setCell ?_ (fun h => absurd h (by simp)) _ | refine Fr.alloc ?_ _ | exact Fr.refl _ _)
set_option maxRecDepth 100000 in
set_option maxHeartbeats 1000000 in
theorem rgrantNode_c {w : World} {g : Nat} {n l s : Int} {v : Value} {ys : List Ls} (h : IsRef w g n l s v ys) (node version fn epoch tick : Int) (hn : node < 0 ∨ n ≤ node) :
    Calls Try.prog 20 #[.pointer (some ⟨g, 0, none⟩), .int .i64 node, .int .i64 version, .int .i64 fn, .int .i64 epoch, .int .i64 tick] w (Refuses w 152) := by
  have FW := hid ((Fr.refl No w).alloc (.cells #[.int .i64 0, .int .i64 0, .int .i64 0, .int .i64 0, .int .i64 0] 30))
  have H := hid (h.keep FW.out)
  obtain ⟨c0, c1, c2, c3, cf⟩ := H.out.blk.four
  clear h
  have hcs : node < 0 ∨ (¬ node < 0 ∧ n ≤ node) := by omega
  rcases hcs with d1 | ⟨d1, d2⟩
  all_goals
    go_enter Try.func20, Try.ntmps20
    go_wp2_with fail
    refine ⟨rfl, ?_⟩
    refine ⟨.tuple #[zeroL, .int .i64 152], ?_, ?_⟩
    · have hres : Try.f20.results = #[.cell 12 30, .tmp 13] := rfl
      simp [results, hres, asAddr]
      try go_simp
      try rfl
    · refine ⟨rfl, ?_⟩
      repeat (first | refine Fr.setCell ?_ (fun h => absurd h (by simp)) _ | refine Fr.alloc ?_ _ | exact Fr.refl _ _)
set_option maxRecDepth 100000 in
set_option maxHeartbeats 2000000 in
theorem rgrantArg_c {w : World} {g : Nat} {n l s : Int} {v : Value} {ys : List Ls} (h : IsRef w g n l s v ys) (node version fn epoch tick : Int) (hn : ¬ (node < 0 ∨ n ≤ node)) (hb : (version < 0 ∨ 1099511627776 < version) ∨ (fn < 0 ∨ 1099511627776 < fn) ∨ (epoch < 0 ∨ 1099511627776 < epoch) ∨ (tick < 0 ∨ 1099511627776 < tick)) :
    Calls Try.prog 20 #[.pointer (some ⟨g, 0, none⟩), .int .i64 node, .int .i64 version, .int .i64 fn, .int .i64 epoch, .int .i64 tick] w (Refuses w 2) := by
  have FW := hid ((Fr.refl No w).alloc (.cells #[.int .i64 0, .int .i64 0, .int .i64 0, .int .i64 0, .int .i64 0] 30))
  have H := hid (h.keep FW.out)
  obtain ⟨c0, c1, c2, c3, cf⟩ := H.out.blk.four
  clear h
  have d1 : ¬ node < 0 := by omega
  have d2 : ¬ n ≤ node := by omega
  have bad1 : ∀ (x : Int) (w : World), (x < 0 ∨ 1099511627776 < x) → Calls Try.prog 38 #[.int .i64 x] w fun e w' => e = .returned (.bool true) ∧ w' = w := fun x w hx => by
    have := bad_c w x
    rwa [show decide (x < 0 ∨ 1099511627776 < x) = true from decide_eq_true hx] at this
  have bad0 : ∀ (x : Int) (w : World), ¬ (x < 0 ∨ 1099511627776 < x) → Calls Try.prog 38 #[.int .i64 x] w fun e w' => e = .returned (.bool false) ∧ w' = w := fun x w hx => by
    have := bad_c w x
    rwa [show decide (x < 0 ∨ 1099511627776 < x) = false from decide_eq_false hx] at this
  have B1 := hid bad1
  have B0 := hid bad0
  clear bad1 bad0
  have hcs : (version < 0 ∨ 1099511627776 < version) ∨ (¬ (version < 0 ∨ 1099511627776 < version) ∧ (fn < 0 ∨ 1099511627776 < fn)) ∨ (¬ (version < 0 ∨ 1099511627776 < version) ∧ ¬ (fn < 0 ∨ 1099511627776 < fn) ∧ (epoch < 0 ∨ 1099511627776 < epoch)) ∨ (¬ (version < 0 ∨ 1099511627776 < version) ∧ ¬ (fn < 0 ∨ 1099511627776 < fn) ∧ ¬ (epoch < 0 ∨ 1099511627776 < epoch) ∧ (tick < 0 ∨ 1099511627776 < tick)) := by omega
  clear hb hn
  rcases hcs with e1 | ⟨e1, e2⟩ | ⟨e1, e2, e3⟩ | ⟨e1, e2, e3, e4⟩
  · have E1 := hid e1
    clear e1
    go_enter Try.func20, Try.ntmps20
    go_wp2_with fail
    refine (B1.out version _ E1.out).mono ?_
    rintro e wx ⟨rfl, rfl⟩
    go_wp2_with fail
    refine ⟨rfl, ?_⟩
    refine ⟨.tuple #[zeroL, .int .i64 2], ?_, ?_⟩
    · have hres : Try.f20.results = #[.cell 12 30, .tmp 13] := rfl
      simp [results, hres, asAddr]
      try go_simp
      try rfl
    · refine ⟨rfl, ?_⟩
      repeat (first | refine Fr.setCell ?_ (fun h => absurd h (by simp)) _ | refine Fr.alloc ?_ _ | exact Fr.refl _ _)
  · have E1 := hid e1
    have E2 := hid e2
    clear e1 e2
    go_enter Try.func20, Try.ntmps20
    go_wp2_with fail
    refine (B0.out version _ E1.out).mono ?_
    rintro e wx ⟨rfl, rfl⟩
    go_wp2_with fail
    refine (B1.out fn _ E2.out).mono ?_
    rintro e wx ⟨rfl, rfl⟩
    go_wp2_with fail
    refine ⟨rfl, ?_⟩
    refine ⟨.tuple #[zeroL, .int .i64 2], ?_, ?_⟩
    · have hres : Try.f20.results = #[.cell 12 30, .tmp 13] := rfl
      simp [results, hres, asAddr]
      try go_simp
      try rfl
    · refine ⟨rfl, ?_⟩
      repeat (first | refine Fr.setCell ?_ (fun h => absurd h (by simp)) _ | refine Fr.alloc ?_ _ | exact Fr.refl _ _)
  · have E1 := hid e1
    have E2 := hid e2
    have E3 := hid e3
    clear e1 e2 e3
    go_enter Try.func20, Try.ntmps20
    go_wp2_with fail
    refine (B0.out version _ E1.out).mono ?_
    rintro e wx ⟨rfl, rfl⟩
    go_wp2_with fail
    refine (B0.out fn _ E2.out).mono ?_
    rintro e wx ⟨rfl, rfl⟩
    go_wp2_with fail
    refine (B1.out epoch _ E3.out).mono ?_
    rintro e wx ⟨rfl, rfl⟩
    go_wp2_with fail
    refine ⟨rfl, ?_⟩
    refine ⟨.tuple #[zeroL, .int .i64 2], ?_, ?_⟩
    · have hres : Try.f20.results = #[.cell 12 30, .tmp 13] := rfl
      simp [results, hres, asAddr]
      try go_simp
      try rfl
    · refine ⟨rfl, ?_⟩
      repeat (first | refine Fr.setCell ?_ (fun h => absurd h (by simp)) _ | refine Fr.alloc ?_ _ | exact Fr.refl _ _)
  · have E1 := hid e1
    have E2 := hid e2
    have E3 := hid e3
    have E4 := hid e4
    clear e1 e2 e3 e4
    go_enter Try.func20, Try.ntmps20
    go_wp2_with fail
    refine (B0.out version _ E1.out).mono ?_
    rintro e wx ⟨rfl, rfl⟩
    go_wp2_with fail
    refine (B0.out fn _ E2.out).mono ?_
    rintro e wx ⟨rfl, rfl⟩
    go_wp2_with fail
    refine (B0.out epoch _ E3.out).mono ?_
    rintro e wx ⟨rfl, rfl⟩
    go_wp2_with fail
    refine (B1.out tick _ E4.out).mono ?_
    rintro e wx ⟨rfl, rfl⟩
    go_wp2_with fail
    refine ⟨rfl, ?_⟩
    refine ⟨.tuple #[zeroL, .int .i64 2], ?_, ?_⟩
    · have hres : Try.f20.results = #[.cell 12 30, .tmp 13] := rfl
      simp [results, hres, asAddr]
      try go_simp
      try rfl
    · refine ⟨rfl, ?_⟩
      repeat (first | refine Fr.setCell ?_ (fun h => absurd h (by simp)) _ | refine Fr.alloc ?_ _ | exact Fr.refl _ _)
end Go.Proofs.Ythcebkbedfaoeaa
