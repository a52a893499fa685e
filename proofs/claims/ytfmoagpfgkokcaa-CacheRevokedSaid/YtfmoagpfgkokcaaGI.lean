import Derived.Test.YtfmoagpfgkokcaaGH
/-! Revoke, Expire. -/
namespace Go.Proofs.Ytfmoagpfgkokcaa
open Go.RowKit
set_option linter.unusedVariables false
set_option linter.unusedSimpArgs false

def floorOf (k : Int) (fs : List (Int × Int)) : Int := ((fs.find? (fun p => decide (p.1 = k))).map (·.2)).getD 0
def putF (k v : Int) (fs : List (Int × Int)) : List (Int × Int) := if k ∈ fs.map (·.1) then fs.map (fun p => if p.1 = k then (k, v) else p) else fs ++ [(k, v)]
theorem lookF {w : World} {b : Nat} {fs : List (Int × Int)} (hm : MapAt (Value.int .i64) w b (valsF fs)) (k : Int) : (Instr.lookup 65 (.map (some b)) (.int .i64 k) false).run Try.prog w = .ok (.int .i64 (floorOf k fs)) w := by
  have := run_lookK (P := Try.prog) (T := 65) (K := 3) (E := 3) Try.underlying65 keyOKi (z := .int .i64 0) (by kernel_rfl) hm k
  rw [this]
  unfold floorOf getK valsF
  rw [List.find?_map]
  have e : (List.find? ((fun p : Int × Value => @BEq.beq Int instBEqOfDecidableEq p.1 k) ∘ fun p : Int × Int => (p.1, Value.int .i64 p.2)) fs) = fs.find? (fun p => decide (p.1 = k)) := rfl
  rw [e]
  cases fs.find? (fun p => decide (p.1 = k)) <;> rfl
theorem put_valsF (k v : Int) (fs : List (Int × Int)) : putK k (.int .i64 v) (valsF fs) = valsF (putF k v fs) := by
  unfold putK putF
  rw [valsF_keys]
  split
  · unfold valsF
    rw [List.map_map, List.map_map]
    apply List.map_congr_left
    intro p _
    by_cases hp : p.1 = k <;> simp [hp]
  · simp [valsF]
set_option maxRecDepth 100000 in
set_option maxHeartbeats 2000000 in
theorem revoke_c {w : World} {g b fb : Nat} {ms : List (K2 × Ev)} {fs : List (Int × Int)} (h : IsC w g b fb ms fs) (fn epoch : Int) (hml : ms.length ≤ 1000000) :
    Calls Try.prog 17 #[.pointer (some ⟨g, 0, none⟩), .int .i64 fn, .int .i64 epoch] w fun en w' =>
      en = .returned (.int .i64 ((ms.length : Int) - (ms.filter (fun p => !belowB (putF fn (max (floorOf fn fs) epoch) fs) p.2)).length)) ∧ IsC w' g b fb (ms.filter (fun p => !belowB (putF fn (max (floorOf fn fs) epoch) fs) p.2)) (putF fn (max (floorOf fn fs) epoch) fs) ∧ Fr (fun x => x = b ∨ x = fb) w w' := by
  have H := hid h
  have hl0 := lookF (h.flo.keep ((Fr.refl No w).drew) (not_no _)) fn
  have kx := fun (w : World) => run_max2 (P := Try.prog) (w := w) (k := .i64) (ats := #[3, 3]) (ty := 3) (floorOf fn fs) epoch
  obtain ⟨w10, hrun, M10, F10⟩ := run_putK (P := Try.prog) (T := 65) (K := 3) (E := 3) Try.underlying65 keyOKi (h.flo.keep ((Fr.refl No w).drew) (not_no _)) fn (.int .i64 (max (floorOf fn fs) epoch))
  rw [put_valsF] at M10
  have HK10 := hid ((((Fr.refl No w).drew).mono (S' := fun x => x = fb) (fun x _ h => absurd h (not_no x))).trans F10 (fun x _ h => h))
  have KS := hid (show ∀ w', Fr (fun x => x = fb) w w' → w'.cell? ⟨g, 1, none⟩ = some (.map (some fb)) from fun w' hf => (h.blk.keep hf (fun e => (h.blk.not_mapK h.flo) e)).cell 1)
  have HC := hid (show IsC w10 g b fb ms (putF fn (max (floorOf fn fs) epoch) fs) from ⟨h.blk.keep HK10.out (fun e => (h.blk.not_mapK h.flo) e), h.map.keep HK10.out h.two, M10, h.two, fun p hp => (h.rows p hp).keep_ HK10.out (cells_not_map h.flo)⟩)
  obtain ⟨c0, c1, cf⟩ := h.blk.pair
  clear h M10 F10
  go_enter Try.func17, Try.ntmps17
  go_wp2_with fail
  refine (right_yes H.out.blk).mono ?_
  rintro en wx ⟨rfl, rfl⟩
  go_upto_region 3 with fail
  go_region_held_law (fun w' => w'.cell? ⟨g, 1, none⟩ = some (.map (some fb)))
    (first
      | exact KS.out _ ((Fr.refl _ wx).drew)
      | exact KS.out _ HK10.out
      | fail)
    (fail)
  all_goals
    clear hl0 kx hrun c0 c1 cf
    go_wp2_with fail
    refine (drop_B HC.out _ ⟨rfl, HC.out.blk, HC.out.flo⟩ hml).mono ?_
    rintro en w2 ⟨rfl, t2, f2⟩
    have HT2 := hid t2
    have HF2 := hid ((HK10.out.mono (S' := fun x => x = b ∨ x = fb) (fun x _ h => .inr h)).trans f2 (fun x _ h => .inl h))
    clear t2 f2
    go_wp2_with fail
    go_ret
    exact ⟨rfl, HT2.out, HF2.out⟩
set_option maxRecDepth 100000 in
set_option maxHeartbeats 2000000 in
theorem expire_c {w : World} {g b fb : Nat} {ms : List (K2 × Ev)} {fs : List (Int × Int)} (h : IsC w g b fb ms fs) (tick : Int) (hml : ms.length ≤ 1000000) :
    Calls Try.prog 15 #[.pointer (some ⟨g, 0, none⟩), .int .i64 tick] w fun en w' =>
      en = .returned (.int .i64 ((ms.length : Int) - (ms.filter (fun p => !goneE tick p.2)).length)) ∧ IsC w' g b fb (ms.filter (fun p => !goneE tick p.2)) fs ∧ Fr (fun x => x = b) w w' := by
  have F1 : Fr No w (w.alloc (.cells #[.int .i64 tick] 3)) := (Fr.refl No w).alloc _
  have HF := hid F1
  have HB := hid (Blk.new w 3 #[.int .i64 tick])
  have H := hid (h.keep F1)
  clear F1 h
  go_enter Try.func15, Try.ntmps15
  go_wp2_with fail
  refine (right_yes H.out.blk).mono ?_
  rintro en wx ⟨rfl, hwx⟩
  subst hwx
  go_wp2_with fail
  refine (drop_E H.out _ w.heap.size tick ⟨rfl, HB.out⟩ hml).mono ?_
  rintro en w2 ⟨rfl, t2, f2⟩
  have HT2 := hid t2
  have HF2 := hid ((HF.out.mono (S' := fun x => x = b) (fun x _ h => absurd h (not_no x))).trans f2 (fun x _ h => h))
  clear t2 f2
  go_wp2_with fail
  go_ret
  exact ⟨rfl, HT2.out, HF2.out⟩
end Go.Proofs.Ytfmoagpfgkokcaa
