import Derived.Test.YtfbhcapcnkcfdaaLow
import Derived.StillTailTactics
import Derived.Deep.RegionHeld3
/-! The contracts of package disk: what reads, what arms, what crashes. -/
namespace Go.Proofs.Ytfbhcapcnkcfdaa
open Go.RowKit
set_option linter.unusedVariables false
set_option linter.unusedSimpArgs false

/-- a disk, as the document has it -/
structure DSt where
  most : Int
  bytes : List UInt8
  synced : Nat
  arm : Int
  down : Bool

def DSt.cells (d : DSt) (v : Value) : Array Value := #[.bool true, .int .i64 d.most, v, .int .i64 d.synced, .int .i64 d.arm, .bool d.down]
/-- a disk that New made stands at g; its bytes at v -/
structure IsDisk (w : World) (g : Nat) (v : Value) (d : DSt) : Prop where
  blk : Blk w g 77 (d.cells v)
  own : OwnB 5 w v d.bytes
  most0 : 0 ≤ d.most
  most1 : d.most ≤ 67108864
  len : (d.bytes.length : Int) ≤ d.most
  syn : d.synced ≤ d.bytes.length
  arm0 : -1 ≤ d.arm
  arm1 : d.arm ≤ 9223372036854775807

section
variable {w w' : World} {g : Nat} {v : Value} {d : DSt}
theorem IsDisk.ne (h : IsDisk w g v d) : ¬ Of v g := h.own.ne_ h.blk (by decide)
theorem IsDisk.lt (h : IsDisk w g v d) : g < w.heap.size := h.blk.lt
theorem IsDisk.keep {S : Nat → Prop} (h : IsDisk w g v d) (hf : Fr S w w') (hg : ¬ S g) (hv : ∀ k, Of v k → ¬ S k) : IsDisk w' g v d :=
  ⟨h.blk.keep hf hg, h.own.keep hf hv, h.most0, h.most1, h.len, h.syn, h.arm0, h.arm1⟩
theorem IsDisk.keep_no (h : IsDisk w g v d) (hf : Fr No w w') : IsDisk w' g v d := h.keep hf (not_no _) (fun k _ => not_no k)
theorem IsDisk.c0 (h : IsDisk w g v d) : w.cell? ⟨g, 0, none⟩ = some (.bool true) := h.blk.cell 0
theorem IsDisk.c1 (h : IsDisk w g v d) : w.cell? ⟨g, 1, none⟩ = some (.int .i64 d.most) := h.blk.cell 1
theorem IsDisk.c2 (h : IsDisk w g v d) : w.cell? ⟨g, 2, none⟩ = some v := h.blk.cell 2
theorem IsDisk.c3 (h : IsDisk w g v d) : w.cell? ⟨g, 3, none⟩ = some (.int .i64 d.synced) := h.blk.cell 3
theorem IsDisk.c4 (h : IsDisk w g v d) : w.cell? ⟨g, 4, none⟩ = some (.int .i64 d.arm) := h.blk.cell 4
theorem IsDisk.c5 (h : IsDisk w g v d) : w.cell? ⟨g, 5, none⟩ = some (.bool d.down) := h.blk.cell 5
end

theorem OwnB.cut {e : TypeId} {w : World} {A : Option Addr} {c k : Nat} {xs : List UInt8} (h : OwnB e w (.slice A xs.length c) xs) (hk : k ≤ xs.length) : OwnB e w (.slice A k k) (xs.take k) := by
  have hl : (xs.take k).length = k := by simp; omega
  unfold OwnB
  rw [hl]
  refine ⟨by rw [bvs_length]; simp; omega, ?_⟩
  rcases h.2 with ⟨h0, h1⟩ | ⟨g, cap, cur, hv, hg, hn, hc, hs, ht⟩
  · injection h0 with h0 h2 h3
    subst h0
    have : k = 0 := by omega
    subst this
    exact .inl ⟨rfl, by simp⟩
  · injection hv with h1 h2 h3
    subst h1 h3
    refine .inr ⟨g, k, cur, rfl, hg, Nat.le_refl _, by omega, by omega, ?_⟩
    have h4 : (bvs xs).take k = bvs (xs.take k) := by simp [bvs]
    rw [← h4, ← ht, List.take_take]
    congr 1
    omega

set_option maxHeartbeats 400000 in
theorem none_nil (w : World) : Calls Try.prog 41 #[.pointer none] w fun e w' => e = .returned (.bool true) ∧ w' = w := by
  go_enter Try.func41, Try.ntmps41
  go_wp2
  go_ret
  exact ⟨rfl, rfl⟩
set_option maxHeartbeats 400000 in
theorem none_at (g : Nat) (mk : Bool) (w : World) (h : w.cell? ⟨g, 0, none⟩ = some (.bool mk)) : Calls Try.prog 41 #[.pointer (some ⟨g, 0, none⟩)] w fun e w' => e = .returned (.bool (!mk)) ∧ w' = w := by
  go_enter Try.func41, Try.ntmps41
  go_wp2
  go_ret
  exact ⟨rfl, rfl⟩
theorem none_c {w : World} {g : Nat} {v : Value} {d : DSt} (h : IsDisk w g v d) : Calls Try.prog 41 #[.pointer (some ⟨g, 0, none⟩)] w fun e w' => e = .returned (.bool false) ∧ w' = w := none_at g true w h.c0

set_option maxHeartbeats 400000 in
theorem new_bad (n : Int) (h : n < 0 ∨ n > 67108864) (w : World) : Calls Try.prog 21 #[.int .i64 n] w fun e w' => e = .returned (.tuple #[.pointer none, .int .i64 2]) ∧ w' = w := by
  rcases h with h | h
  · go_enter Try.func21, Try.ntmps21
    go_wp2
    go_ret2
    exact ⟨rfl, rfl⟩
  · have h2 : ¬ n < 0 := by omega
    go_enter Try.func21, Try.ntmps21
    go_wp2
    go_ret2
    exact ⟨rfl, rfl⟩

/-- a new disk -/
def newD (n : Int) : DSt := ⟨n, [], 0, -1, false⟩
def RetNew (w : World) (n : Int) : Ending → World → Prop := fun e w' => ∃ g v, e = .returned (.tuple #[.pointer (some ⟨g, 0, none⟩), .int .i64 0]) ∧ IsDisk w' g v (newD n) ∧ Fr No w w' ∧ w.heap.size ≤ g ∧ ∀ k, ¬ Of v k
set_option maxHeartbeats 400000 in
theorem new_c (n : Int) (h0 : 0 ≤ n) (h1 : n ≤ 67108864) (w : World) : Calls Try.prog 21 #[.int .i64 n] w (RetNew w n) := by
  go_enter Try.func21, Try.ntmps21
  go_wp2
  go_ret2
  exact ⟨_, .slice none 0 0, rfl, ⟨Blk.new w _ _, OwnB.nil _ _, h0, h1, by simp [newD]; omega, by simp [newD], by simp [newD], by simp [newD]⟩, (Fr.refl No w).alloc _, Nat.le_refl _, fun k => Of_none⟩

/-! ## what reads -/
set_option maxHeartbeats 400000 in
theorem down_c {w : World} {g : Nat} {v : Value} {d : DSt} (h : IsDisk w g v d) : Calls Try.prog 32 #[.pointer (some ⟨g, 0, none⟩)] w fun e w' => e = .returned (.bool d.down) ∧ w' = w := by
  have H := hid h
  have k0 := h.c0
  have k5 := h.c5
  clear h
  go_enter Try.func32, Try.ntmps32
  go_wp2_with (go_at_call 41; refine (none_c H.out).mono ?_; rintro e w1 ⟨rfl, rfl⟩)
  go_ret
  exact ⟨rfl, rfl⟩
set_option maxHeartbeats 400000 in
theorem size_c {w : World} {g : Nat} {v : Value} {d : DSt} (h : IsDisk w g v d) : Calls Try.prog 16 #[.pointer (some ⟨g, 0, none⟩)] w fun e w' => e = .returned (.int .i64 d.bytes.length) ∧ w' = w := by
  obtain ⟨A, c, rfl, hc⟩ := h.own.slice
  have H := hid h
  have k2 := h.c2
  clear h
  go_enter Try.func16, Try.ntmps16
  go_wp2_with (go_at_call 41; refine (none_c H.out).mono ?_; rintro e w1 ⟨rfl, rfl⟩)
  go_ret
  exact ⟨rfl, rfl⟩
set_option maxHeartbeats 400000 in
theorem synced_c {w : World} {g : Nat} {v : Value} {d : DSt} (h : IsDisk w g v d) : Calls Try.prog 19 #[.pointer (some ⟨g, 0, none⟩)] w fun e w' => e = .returned (.int .i64 d.synced) ∧ w' = w := by
  have H := hid h
  have k3 := h.c3
  clear h
  go_enter Try.func19, Try.ntmps19
  go_wp2_with (go_at_call 41; refine (none_c H.out).mono ?_; rintro e w1 ⟨rfl, rfl⟩)
  go_ret
  exact ⟨rfl, rfl⟩

/-- what Read tells -/
def readD (d : DSt) : List UInt8 × Nat := if d.down then ([], 15) else (d.bytes, 0)
set_option maxHeartbeats 400000 in
theorem read_c {w : World} {g : Nat} {v : Value} {d : DSt} (h : IsDisk w g v d) (r : List UInt8 × Nat) (hr : readD d = r) : Calls Try.prog 39 #[.pointer (some ⟨g, 0, none⟩)] w (RetBE w No r) := by
  subst hr
  have H := hid h
  have HL := hid (show d.bytes.length ≤ 140737488355328 by have := h.len; have := h.most1; omega)
  have k2 := h.c2
  have k5 := h.c5
  have HN := hid (grows_nil w)
  clear h
  obtain ⟨most, bytes, synced, arm, down⟩ := d
  cases down
  · go_enter Try.func39, Try.ntmps39
    go_wp2_with (first
      | (go_at_call 41; refine (none_c H.out).mono ?_; rintro e w1 ⟨rfl, rfl⟩)
      | (go_at_call 56; refine (clone_c _ bytes _ H.out.own.rd HL.out).mono ?_; rintro e w1 ⟨v1, rfl, A1, A2, A3⟩))
    go_ret2
    exact ⟨v1, rfl, A1, A2, A3⟩
  · go_enter Try.func39, Try.ntmps39
    go_wp2_with (first
      | (go_at_call 41; refine (none_c H.out).mono ?_; rintro e w1 ⟨rfl, rfl⟩))
    go_ret2
    exact ⟨_, rfl, OwnB.nil _ _, Fr.refl _ _, HN.out⟩
end Go.Proofs.Ytfbhcapcnkcfdaa
