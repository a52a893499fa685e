import Derived.Test.YtfbhcapcnkcfdaaDiskS
/-! The document's disk, by value. -/
namespace Go.Proofs.Ytfbhcapcnkcfdaa
open Go.RowKit
set_option linter.unusedVariables false
set_option linter.unusedSimpArgs false

/-- the document's disk, as a value -/
def refV (d : DSt) (v : Value) : Value := .agg #[.int .i64 d.most, v, .int .i64 d.synced, .int .i64 d.arm, .bool d.down]

set_option maxRecDepth 100000 in
set_option maxHeartbeats 1000000 in
theorem operation_ref (w : World) (most synced arm : Int) (A : Option Addr) (n c : Nat) (down : Bool) (h1 : -1 ≤ arm) (h2 : arm ≤ 9223372036854775807) :
    Calls Try.prog 53 #[.agg #[.int .i64 most, .slice A n c, .int .i64 synced, .int .i64 arm, .bool down]] w fun e w' =>
      e = .returned (.tuple #[.agg #[.int .i64 most, .slice A n c, .int .i64 synced, .int .i64 (max (arm - 1) (-1)), .bool (down || decide (arm = 0))], .bool (!decide (arm = 0))]) ∧ Fr No w w' := by
  by_cases c0 : arm = 0
  · subst c0
    go_enter Try.func53, Try.ntmps53
    go_wp2
    refine ⟨rfl, ?_⟩
    refine ⟨.tuple #[.agg #[.int .i64 most, .slice A n c, .int .i64 synced, .int .i64 (-1), .bool true], .bool false], ?_, ?_⟩
    · have hres : Try.f53.results = #[.cell 2 49, .tmp 3] := rfl
      simp [results, hres, asAddr]
      try go_simp
    · exact ⟨by simp, ((Fr.refl No w).alloc _).alloc _⟩
  · have hb : (arm == 0) = false := by rw [beq_eq_false_iff_ne]; exact c0
    by_cases c1 : 0 < arm
    · have hw : IntKind.i64.wrap (arm - 1) = arm - 1 := by rw [IntKind.wrap_i64]; omega
      go_enter Try.func53, Try.ntmps53
      go_wp2
      refine ⟨rfl, ?_⟩
      refine ⟨.tuple #[.agg #[.int .i64 most, .slice A n c, .int .i64 synced, .int .i64 (arm - 1), .bool down], .bool true], ?_, ?_⟩
      · have hres : Try.f53.results = #[.cell 2 49, .tmp 3] := rfl
        simp [results, hres, asAddr]
        try go_simp
      · refine ⟨?_, ((Fr.refl No w).alloc _).alloc _⟩
        have e1 : max (arm - 1) (-1) = arm - 1 := by omega
        rw [e1]
        all_goals (simp [c0])
    · go_enter Try.func53, Try.ntmps53
      go_wp2
      refine ⟨rfl, ?_⟩
      refine ⟨.tuple #[.agg #[.int .i64 most, .slice A n c, .int .i64 synced, .int .i64 (arm), .bool down], .bool true], ?_, ?_⟩
      · have hres : Try.f53.results = #[.cell 2 49, .tmp 3] := rfl
        simp [results, hres, asAddr]
        try go_simp
      · refine ⟨?_, ((Fr.refl No w).alloc _).alloc _⟩
        have e1 : max (arm - 1) (-1) = arm := by omega
        rw [e1]
        all_goals (simp [c0])

theorem operation_ref' (w : World) (most synced arm : Int) (A : Option Addr) (n c : Nat) (down : Bool) (h1 : -1 ≤ arm) (h2 : arm ≤ 9223372036854775807) (arm' : Int) (down' ok : Bool) (e1 : max (arm - 1) (-1) = arm') (e2 : (down || decide (arm = 0)) = down') (e3 : (!decide (arm = 0)) = ok) :
    Calls Try.prog 53 #[.agg #[.int .i64 most, .slice A n c, .int .i64 synced, .int .i64 arm, .bool down]] w fun e w' =>
      e = .returned (.tuple #[.agg #[.int .i64 most, .slice A n c, .int .i64 synced, .int .i64 arm', .bool down'], .bool ok]) ∧ Fr No w w' := by
  subst e1 e2 e3
  exact operation_ref w most synced arm A n c down h1 h2

/-- a struct of five cells, known whole: its cells, none frozen -/
theorem Blk.five {w : World} {g : Nat} {t : TypeId} {a b c d e : Value} (h : Blk w g t #[a, b, c, d, e]) :
    w.cell? ⟨g, 0, none⟩ = some a ∧ w.cell? ⟨g, 1, none⟩ = some b ∧ w.cell? ⟨g, 2, none⟩ = some c ∧ w.cell? ⟨g, 3, none⟩ = some d ∧ w.cell? ⟨g, 4, none⟩ = some e ∧ ∀ i, w.frozen? ⟨g, i, none⟩ = false :=
  ⟨h.cell 0, h.cell 1, h.cell 2, h.cell 3, h.cell 4, h.frozen⟩

/-- the post of a call of the document's disk: the disk then, the error -/
def RetR (w : World) (r e : Value) : Ending → World → Prop := fun en w' => en = .returned (.tuple #[r, e]) ∧ Fr No w w'

end Go.Proofs.Ytfbhcapcnkcfdaa
