import Derived.Test.YtjgcibjodiefkaaNetG
/-! The statements' own functions: filled. -/
namespace Go.Proofs.Ytjgcibjodiefkaa
open Go.RowKit
set_option linter.unusedVariables false
set_option linter.unusedSimpArgs false

/-- a list of datagrams of the statement's own: a row that is new since w0 and no part of F; bytes that came in -/
structure Lst (w0 w : World) (F : Nat → Prop) (v : Value) (m : List Gr) : Prop where
  own : Own 29 3 w v m.length (rows Gr.cells m)
  new : ∀ k, Of v k → w0.heap.size ≤ k
  sep : ∀ k, Of v k → ¬ F k
  data : ∀ p ∈ m, InB w0 p.v p.b
section
variable {w0 w w1 : World} {F F2 : Nat → Prop} {v : Value} {m : List Gr}
theorem Lst.keep (h : Lst w0 w F v m) (hf : Fr No w w1) : Lst w0 w1 F v m := ⟨h.own.keep hf (fun k _ => not_no k), h.new, h.sep, h.data⟩
/-- behind a call of the net's -/
theorem Lst.turn (h : Lst w0 w F v m) (hf : Fr F w w1) (hg : ∀ k, F2 k → F k ∨ w.heap.size ≤ k) : Lst w0 w1 F2 v m :=
  ⟨h.own.keep hf h.sep, h.new, fun k hk h2 => by
    rcases hg k h2 with h3 | h3
    · exact h.sep k hk h3
    · have := h.own.lt k hk; omega, h.data⟩
theorem Lst.rd (h : Lst w0 w F v m) : Rd 3 w v m.length (rows Gr.cells m) := h.own.rd
theorem Lst.bytes (h : Lst w0 w F v m) (hf : Fr No w0 w) : ∀ p ∈ m, RdB w p.v p.b := fun p hp => (h.data p hp).1.keep hf (fun k _ => not_no k)
end
/-- the row of a statement's own grows by one -/
theorem Lst.push {w0 w w1 w2 : World} {F : Nat → Prop} {v v2 : Value} {m : List Gr} {p : Gr} {nodes : Int} {L : List G3} {g : Nat} (h : Lst w0 w F v m) (hS : StN w0 w g F nodes L) (hw : w.heap.size ≤ w1.heap.size) (ho : Own 29 3 w2 v2 (m.length + 1) (rows Gr.cells m ++ p.cells)) (hg : ∀ k, Of v2 k → Of v k ∨ k = w1.heap.size) (hp : InB w0 p.v p.b) : Lst w0 w2 F v2 (m ++ [p]) := by
  refine ⟨by rw [List.length_append, rows_append, rows_one]; exact ho, fun k hk => ?_, fun k hk hF => ?_, fun q hq => ?_⟩
  · rcases hg k hk with h1 | rfl
    · exact h.new k h1
    · exact Nat.le_trans hS.fr.size hw
  · rcases hg k hk with h1 | rfl
    · exact h.sep k h1 hF
    · have := hS.n.lt _ hF; omega
  · rcases List.mem_append.1 hq with hq | hq
    · exact h.data q hq
    · rw [List.mem_singleton.1 hq]; exact hp

def RetF (w : World) : Ending → World → Prop := fun e w' => ∃ g F v m, e = .returned (.tuple #[.pointer (some ⟨g, 0, none⟩), v, .bool true]) ∧ StN w w' g F 3 (m.map Gr.abs) ∧ Lst w w' F v m ∧ m.length ≤ 40

set_option maxRecDepth 100000 in
set_option maxHeartbeats 4000000 in
theorem filled_c (y : Value) (os : List OpV) (w : World) (hy : RdO w y os) :
    Calls Try.prog 27 #[y] w (RetF w) := by
  obtain ⟨A1, c1, rfl, q1, _⟩ := hy.1.slice_
  have HY := hid hy
  clear hy
  go_enter Try.func27, Try.ntmps27
  go_wp2_with fail
  refine (new_c 3 (by omega) (by omega) _).mono ?_
  rintro e w1 ⟨g, rfl, I, F, hg⟩
  have S1 := hid (StN.start I F hg)
  clear I F hg
  go_wp2_with fail
  go_loopg [7, 8] 40 (fun q v7 v8 w' => ∃ (i : Nat) (F : Nat → Prop) (m : List Gr), v8 = .int .i64 i ∧ i ≤ 40 ∧ q = 40 - i ∧ Hid (m.length ≤ i) ∧ Hid (StN w w' g F 3 (m.map Gr.abs)) ∧ Hid (Lst w w' F v7 m))
  case atStart => exact ⟨0, _, [], rfl, by omega, rfl, by simp [Hid], S1, ⟨Own.nil _ _ _, fun k hk => absurd hk Of_none, fun k hk => absurd hk Of_none, by simp⟩⟩
  case round =>
    clear S1
    obtain ⟨i, F, m, rfl, hi, hq, HM, HS, HL⟩ := hrel
    have HQ := hid hq
    clear hq
    obtain ⟨A7, c7, rfl, hc7, _⟩ := HL.out.own.slice
    by_cases d1 : i < os.length ∧ i < 40
    · obtain ⟨d1, d2⟩ := d1
      have d3 : (i : Int) < os.length := by omega
      have d4 : (i : Int) < 40 := by omega
      obtain ⟨b, off, kind, n, A', c', ys, rfl, hz, k0, k1, k2, hok⟩ := (HY.out.keep HS.out.fr).at_ d1
      obtain ⟨hin, b1, b2, b3, b4⟩ := hok
      replace b1 : -9223372036854775808 ≤ kind := b1
      replace b2 : kind ≤ 9223372036854775807 := b2
      replace b3 : -9223372036854775808 ≤ n := b3
      replace b4 : n ≤ 9223372036854775807 := b4
      have HIN0 := hid (HY.out.2 _ (List.mem_of_getElem? hz)).1
      have HYS := hid hin.1
      have PK := hid (show ∀ (x : Int) (w : World), (x = kind ∨ x = n) → Calls Try.prog 25 #[.int .i64 x, .int .i64 3] w fun e w' => e = .returned (.int .i64 (x % 3)) ∧ w' = w from fun x w h => by
        rcases h with rfl | rfl
        · exact pick_c _ 3 b1 b2 (by omega) (by omega) w
        · exact pick_c _ 3 b3 b4 (by omega) (by omega) w)
      have m1 := Int.emod_nonneg kind (show (3 : Int) ≠ 0 by omega)
      have m2 := Int.emod_lt_of_pos kind (show (0 : Int) < 3 by omega)
      have m3 := Int.emod_nonneg n (show (3 : Int) ≠ 0 by omega)
      have m4 := Int.emod_lt_of_pos n (show (0 : Int) < 3 by omega)
      clear hin b1 b2 b3 b4 hz
      go_wp2_with fail
      have M1 := hid m1
      have M2 := hid m2
      have M3 := hid m3
      have M4 := hid m4
      clear m1 m2 m3 m4
      go_region_held3 (fun w' => w'.cell? ⟨b, off + i * 3, none⟩ = some (.int .i64 kind) ∧ w'.cell? ⟨b, off + i * 3 + 1, none⟩ = some (.int .i64 n) ∧ w'.cell? ⟨b, off + i * 3 + 2, none⟩ = some (.slice A' ys.length c')) (go_keep) ((first
        | (go_at_call 25; refine (PK.out _ _ (by first | exact .inl rfl | exact .inr rfl)).mono ?_; rintro e wq ⟨rfl, rfl⟩)))
      all_goals
        generalize kind % 3 = a at M1 M2 ⊢
        generalize n % 3 = z at M3 M4 ⊢
        have HF9 := hid (((Fr.refl No wr).drew).alloc (.cells #[.int .i64 a, .int .i64 z, .slice A' ys.length c'] 29))
        have D9 := hid (Blk.new_ wr.drew 29 #[.int .i64 a, .int .i64 z, .slice A' ys.length c'] wr.heap.size rfl)
        have S9 := hid (HS.out.keep HF9.out)
        have L9 := hid (HL.out.keep HF9.out)
        have Y9 := hid (HYS.out.keep HF9.out (fun k _ => not_no k))
        have N9 := hid (show ¬ F wr.heap.size from fun h => by have := HS.out.n.lt _ h; omega)
        have HLEN := hid (show (m.map Gr.abs).length < 4096 by have := HM.out; rw [List.length_map]; omega)
        by_cases c5 : ys.length ≤ 50
        · have c6 : (ys.length : Int) ≤ 50 := by omega
          go_wp2_with fail
          refine (send_c S9.out.n a z _ ys Y9.out (by omega) (m.map Gr.abs ++ [(a, z, ys)], 0) (send_ok ⟨M1.out, M2.out⟩ ⟨M3.out, M4.out⟩ (by omega) HLEN.out)).mono ?_
          intro e w10 hr
          obtain ⟨F10, rfl, S', hF, hG⟩ := S9.out.send' (Fr.refl No _) hr
          have S10 := hid (show StN w w10 g F10 3 (m.map Gr.abs ++ [(a, z, ys)]) from S')
          have L10 := hid (L9.out.turn hF hG)
          have D10 := hid (D9.out.keep hF N9.out)
          obtain ⟨a0, a1, a2, af⟩ := D10.out.three
          clear S' hr hF hG
          have OO := hid (L10.out.own.keep ((Fr.refl No w10).alloc (.cells #[.int .i64 a, .int .i64 z, .slice A' ys.length c'] 29)) (fun k _ => not_no k))
          go_wp2_with (at_builtin; refine wpl_app _ rfl (.tmp 59) (.tmp 61) 38 rfl 29 _ 3 40 Try.underlying38 infoG rfl (.slice A7 m.length c7) m.length (rows Gr.cells m) rfl OO.out (.slice (some ⟨w10.heap.size, 0, none⟩) 1 1) 1 (Gr.cells ⟨a, z, .slice A' ys.length c', ys⟩) rfl (Rd.lit1 w10 29 #[.int .i64 a, .int .i64 z, .slice A' ys.length c'] 3 rfl) (by intro u hu; simp only [Gr.cells, List.mem_cons, List.not_mem_nil, or_false] at hu; rcases hu with rfl | rfl | rfl <;> rfl) (by have := HM.out; simp only [maxLen]; omega) (by have := HM.out; omega) ?_; intro v12 w12 o12 f12 g12)
          have L12 := hid (L10.out.push (p := ⟨a, z, .slice A' ys.length c', ys⟩) S10.out (by simp) o12 g12 HIN0.out)
          have FA : Fr (Of (.slice A7 m.length c7)) w10 w12 := ((Fr.refl (Of (.slice A7 m.length c7)) w10).alloc _).trans f12 (fun _ _ h => h)
          have S12 := hid (S10.out.keepS FA (fun k hk h => L10.out.sep k h hk) (fun k h => L10.out.new k h))
          clear o12 f12 g12 FA OO L10 S10 a0 a1 a2 af
          go_wp2_with fail
          go_roundg (40 - (i + 1))
          case measure => have := HQ.out; omega
          case rel => exact ⟨i + 1, F10, m ++ [⟨a, z, .slice A' ys.length c', ys⟩], by go_num, by omega, rfl, by have := HM.out; unfold Hid; simp; omega, by rw [List.map_append]; exact S12, L12⟩
        · have c6 : 50 < (ys.length : Int) := by omega
          go_wp2_with fail
          go_roundg (40 - (i + 1))
          case measure => have := HQ.out; omega
          case rel => exact ⟨i + 1, F, m, by go_num, by omega, rfl, by have := HM.out; unfold Hid; omega, S9, L9⟩
    · have hend : (i = 40 ∧ i < os.length) ∨ ¬ i < os.length := by omega
      clear d1
      rcases hend with ⟨he1, he2⟩ | he1
      · have h1 : (i : Int) < os.length := by omega
        have h2 : ¬ (i : Int) < 40 := by omega
        go_wp2_with fail
        go_ret3
        exact ⟨g, F, _, m, rfl, HS.out, HL.out, by have := HM.out; omega⟩
      · have h1 : ¬ (i : Int) < os.length := by omega
        go_wp2_with fail
        go_ret3
        exact ⟨g, F, _, m, rfl, HS.out, HL.out, by have := HM.out; omega⟩
end Go.Proofs.Ytjgcibjodiefkaa
