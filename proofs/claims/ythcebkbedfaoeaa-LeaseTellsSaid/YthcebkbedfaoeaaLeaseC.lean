import Derived.Test.YthcebkbedfaoeaaLeaseB
/-! Grant. -/
namespace Go.Proofs.Ythcebkbedfaoeaa
open Go.RowKit
set_option linter.unusedVariables false
set_option linter.unusedSimpArgs false

def zeroX : Ls := ⟨0, 0, 0, 0, 0⟩
def wasOf (k : K3) (ms : List (K3 × Ls)) : Ls := (getT k ms).getD zeroX
theorem look3 {w : World} {b : Nat} {ms : List (K3 × Ls)} (hm : MapAt enc3 w b (vals ms)) (k : K3) : (Instr.lookup 25 (.map (some b)) (enc3 k) false).run Try.prog w = .ok (wasOf k ms).val w := by
  have := run_lookK (P := Try.prog) (T := 25) (K := 65) (E := 30) Try.underlying25 keyOK3 (z := zeroX.val) (by kernel_rfl) hm k
  rw [this, get_vals]
  unfold wasOf
  cases getT k ms <;> rfl
set_option maxRecDepth 100000 in
set_option maxHeartbeats 1000000 in
theorem grant_ok {w : World} {g b : Nat} {n l s : Int} {ms : List (K3 × Ls)} (h : IsTab w g b n l s ms) (node version fn epoch tick : Int) (hn : 0 ≤ node ∧ node < n) (hv : 0 ≤ version ∧ version ≤ 1099511627776) (hf : 0 ≤ fn ∧ fn ≤ 1099511627776)
    (he : 0 ≤ epoch ∧ epoch ≤ 1099511627776) (ht : 0 ≤ tick ∧ tick ≤ 1099511627776) (hl : 0 ≤ l ∧ l ≤ 1048576) (hw : (wasOf (node, version, fn) ms).epoch ≤ epoch) :
    Calls Try.prog 9 #[.pointer (some ⟨g, 0, none⟩), .int .i64 node, .int .i64 version, .int .i64 fn, .int .i64 epoch, .int .i64 tick] w fun e w' =>
      e = .returned (.tuple #[(Ls.mk node version fn epoch (max (tick + l) (wasOf (node, version, fn) ms).till)).val, .int .i64 0]) ∧ IsTab w' g b n l s (putT (node, version, fn) ⟨node, version, fn, epoch, max (tick + l) (wasOf (node, version, fn) ms).till⟩ ms) ∧ Fr (fun x => x = b) w w' := by
  obtain ⟨W, hW⟩ : ∃ W, w.alloc (.cells #[.int .i64 0, .int .i64 0, .int .i64 0, .int .i64 0, .int .i64 0] 30) = W := ⟨_, rfl⟩
  have HW := hid hW
  have FW := hid (show Fr No w W from hW ▸ (Fr.refl No w).alloc _)
  have HB := hid (show Blk W w.heap.size 30 #[.int .i64 0, .int .i64 0, .int .i64 0, .int .i64 0, .int .i64 0] from hW ▸ Blk.new w _ _)
  have HG0 := hid (show ¬ w.heap.size ≤ g from fun e => by have := h.blk.lt; omega)
  have H := hid (h.keep FW.out)
  obtain ⟨c0, c1, c2, c3, cf⟩ := H.out.blk.four
  clear hW h
  have d1 : ¬ node < 0 := by omega
  have d2 : ¬ n ≤ node := by omega
  have kn := fun (w : World) => run_min4 (P := Try.prog) (w := w) (k := .i64) (ats := #[3, 3, 3, 3]) (ty := 3) version fn epoch tick
  have kx := fun (w : World) => run_max4 (P := Try.prog) (w := w) (k := .i64) (ats := #[3, 3, 3, 3]) (ty := 3) version fn epoch tick
  have d3 : ¬ (min (min (min version fn) epoch) tick) < 0 := by omega
  have d4 : ¬ 1099511627776 < (max (max (max version fn) epoch) tick) := by omega
  go_enter Try.func9, Try.ntmps9
  go_wp2_with fail
  rw [HW.out]
  refine (right_yes H.out.blk).mono ?_
  rintro e wx ⟨rfl, rfl⟩
  go_upto_region 8 with fail
  have HBW := hid (HB.out.alloc (.cells #[.int .i64 node, .int .i64 version, .int .i64 fn] 65))
  obtain ⟨V, hV⟩ : ∃ V, wx.alloc (.cells #[.int .i64 node, .int .i64 version, .int .i64 fn] 65) = V := ⟨_, rfl⟩
  have HV := hid hV
  have FV := hid (show Fr No w V from hV ▸ FW.out.alloc _)
  have HKY := hid (show Blk V wx.heap.size 65 #[.int .i64 node, .int .i64 version, .int .i64 fn] from hV ▸ Blk.new wx _ _)
  have HB4 := hid (show Blk V w.heap.size 30 #[.int .i64 0, .int .i64 0, .int .i64 0, .int .i64 0, .int .i64 0] from hV ▸ HBW.out)
  have H3 := hid (H.out.keep (show Fr No wx V from hV ▸ (Fr.refl No wx).alloc _))
  have HSZ := hid (show w.heap.size < V.heap.size from HB4.out.lt)
  have HSX := hid (show wx.heap.size < V.heap.size from HKY.out.lt)
  rw [HV.out]
  generalize hq : wasOf (node, version, fn) ms = q at hw ⊢
  obtain ⟨a0, a1, a2, a3, a4⟩ := q
  replace hw : a3 ≤ epoch := hw
  have HWAS := hid hq
  have HE := hid hw
  have hle : ∀ w', Fr No V w' → (Instr.lookup 25 (.map (some b)) (.agg #[.int .i64 node, .int .i64 version, .int .i64 fn]) false).run Try.prog w' = .ok (.agg #[.int .i64 a0, .int .i64 a1, .int .i64 a2, .int .i64 a3, .int .i64 a4]) w' := fun w' hf => by
    have := look3 (H3.out.map.keep hf (not_no _)) (node, version, fn)
    rw [HWAS.out] at this
    exact this
  have HLE := hid hle
  have hl0 := HLE.out _ ((Fr.refl No V).drew)
  have hl1 := HLE.out _ (((Fr.refl No V).drew).alloc (.cells #[.int .i64 0, .int .i64 0, .int .i64 0, .int .i64 0, .int .i64 0] 30))
  have hl2 := HLE.out _ (((Fr.refl No V).alloc (.cells #[.int .i64 0, .int .i64 0, .int .i64 0, .int .i64 0, .int .i64 0] 30)).drew)
  have KS := hid (show ∀ w', Fr No V w' → w'.cell? ⟨g, 3, none⟩ = some (.map (some b)) ∧ w'.cell? ⟨wx.heap.size, 0, none⟩ = some (.int .i64 node) ∧ w'.cell? ⟨wx.heap.size, 1, none⟩ = some (.int .i64 version) ∧ w'.cell? ⟨wx.heap.size, 2, none⟩ = some (.int .i64 fn) from fun w' hf => by
    have h1 := H3.out.blk.keep hf (not_no _)
    have h2 := HKY.out.keep hf (not_no _)
    exact ⟨h1.cell 3, h2.cell 0, h2.cell 1, h2.cell 2⟩)
  clear hV hle hq hw c0 c1 c2 c3 cf kn kx
  go_region_held_law (fun w' => w'.cell? ⟨g, 3, none⟩ = some (.map (some b)) ∧ w'.cell? ⟨wx.heap.size, 0, none⟩ = some (.int .i64 node) ∧ w'.cell? ⟨wx.heap.size, 1, none⟩ = some (.int .i64 version) ∧ w'.cell? ⟨wx.heap.size, 2, none⟩ = some (.int .i64 fn))
    (first
      | exact KS.out _ ((Fr.refl No V).drew)
      | exact KS.out _ (((Fr.refl No V).drew).alloc _)
      | exact KS.out _ (((Fr.refl No V).alloc _).drew)
      | fail)
    (fail)
  all_goals
    (try rw [show (V.alloc (.cells #[.int .i64 a0, .int .i64 a1, .int .i64 a2, .int .i64 a3, .int .i64 a4] 30)).drew = V.drew.alloc (.cells #[.int .i64 a0, .int .i64 a1, .int .i64 a2, .int .i64 a3, .int .i64 a4] 30) from rfl])
    have FU0 := ((Fr.refl No V).drew).alloc (.cells #[.int .i64 a0, .int .i64 a1, .int .i64 a2, .int .i64 a3, .int .i64 a4] 30)
    have HOWN0 : Blk (V.drew.alloc (.cells #[.int .i64 a0, .int .i64 a1, .int .i64 a2, .int .i64 a3, .int .i64 a4] 30)) V.heap.size 30 #[.int .i64 a0, .int .i64 a1, .int .i64 a2, .int .i64 a3, .int .i64 a4] := Blk.new V.drew _ _
    clear hl0 hl1 hl2
    generalize V.drew.alloc (.cells #[.int .i64 a0, .int .i64 a1, .int .i64 a2, .int .i64 a3, .int .i64 a4] 30) = U at FU0 HOWN0 ⊢
    have FU := hid FU0
    have HOWN := hid HOWN0
    clear FU0 HOWN0
    have HUS := FU.out.size
    have HVU := hid (show V.heap.size < U.heap.size from HOWN.out.lt)
    have z3 := HOWN.out.cell 3
    have d5 : ¬ epoch < a3 := by have := HE.out; omega
    have H5 := hid (H3.out.keep FU.out)
    have K5 := hid (HKY.out.keep FU.out (not_no _))
    have B5 := hid (HB4.out.keep FU.out (not_no _))
    go_upto_region 11 with fail
    have KS2 := hid (show ∀ w', Fr No U w' → w'.cell? ⟨g, 1, none⟩ = some (.int .i64 l) ∧ w'.cell? ⟨V.heap.size, 4, none⟩ = some (.int .i64 a4) from fun w' hf => by
      have h1 := H5.out.blk.keep hf (not_no _)
      have h3 := HOWN.out.keep hf (not_no _)
      exact ⟨h1.cell 1, h3.cell 4⟩)
    have kx := fun (w : World) => run_max2 (P := Try.prog) (w := w) (k := .i64) (ats := #[3, 3]) (ty := 3) (tick + l) a4
    have hwr : IntKind.i64.wrap (tick + l) = tick + l := by rw [IntKind.wrap_i64]; omega
    clear z3
    go_region_held_law (fun w' => w'.cell? ⟨g, 1, none⟩ = some (.int .i64 l) ∧ w'.cell? ⟨V.heap.size, 4, none⟩ = some (.int .i64 a4))
      (first
        | exact KS2.out _ ((Fr.refl _ U).drew)
        | exact KS2.out _ (((Fr.refl _ U).drew).alloc _)
        | exact KS2.out _ (((Fr.refl _ U).alloc _).drew)
        | fail)
      (fail)
    all_goals
      (try rw [show (U.alloc (.cells #[.int .i64 node, .int .i64 version, .int .i64 fn, .int .i64 epoch, .int .i64 (max (tick + l) a4)] 30)).drew = U.drew.alloc (.cells #[.int .i64 node, .int .i64 version, .int .i64 fn, .int .i64 epoch, .int .i64 (max (tick + l) a4)] 30) from rfl])
      have FY0 := ((Fr.refl No U).drew).alloc (.cells #[.int .i64 node, .int .i64 version, .int .i64 fn, .int .i64 epoch, .int .i64 (max (tick + l) a4)] 30)
      have HX0 : Blk (U.drew.alloc (.cells #[.int .i64 node, .int .i64 version, .int .i64 fn, .int .i64 epoch, .int .i64 (max (tick + l) a4)] 30)) U.heap.size 30 #[.int .i64 node, .int .i64 version, .int .i64 fn, .int .i64 epoch, .int .i64 (max (tick + l) a4)] := Blk.new U.drew _ _
      generalize U.drew.alloc (.cells #[.int .i64 node, .int .i64 version, .int .i64 fn, .int .i64 epoch, .int .i64 (max (tick + l) a4)] 30) = Y at FY0 HX0 ⊢
      have FY := hid FY0
      have HX := hid HX0
      clear FY0 HX0 kx hwr
      have H6 := hid (H5.out.keep FY.out)
      have K6 := hid (K5.out.keep FY.out (not_no _))
      have B6 := hid (B5.out.keep FY.out (not_no _))
      go_upto_region 12 with fail
      obtain ⟨w10, hrun, M10, F10⟩ := run_putK (P := Try.prog) (T := 25) (K := 65) (E := 30) Try.underlying25 keyOK3 (H6.out.map.keep ((Fr.refl No Y).drew) (not_no _)) (node, version, fn) (Ls.mk node version fn epoch (max (tick + l) a4)).val
      replace hrun : (Instr.mapUpdate 25 (.map (some b)) (.agg #[.int .i64 node, .int .i64 version, .int .i64 fn]) (.agg #[.int .i64 node, .int .i64 version, .int .i64 fn, .int .i64 epoch, .int .i64 (max (tick + l) a4)])).run Try.prog Y.drew = .ok () w10 := hrun
      have HM10 := hid M10
      have HK10 := hid ((((Fr.refl No Y).drew).mono (S' := fun x => x = b) (fun x _ h => absurd h (not_no x))).trans F10 (fun x _ h => h))
      clear M10 F10
      have KS3 := hid (show ∀ w', Fr (fun x => x = b) Y w' → w'.cell? ⟨g, 3, none⟩ = some (.map (some b)) ∧ w'.cell? ⟨wx.heap.size, 0, none⟩ = some (.int .i64 node) ∧ w'.cell? ⟨wx.heap.size, 1, none⟩ = some (.int .i64 version) ∧ w'.cell? ⟨wx.heap.size, 2, none⟩ = some (.int .i64 fn) ∧ w'.cell? ⟨U.heap.size, 0, none⟩ = some (.int .i64 node) ∧ w'.cell? ⟨U.heap.size, 1, none⟩ = some (.int .i64 version) ∧ w'.cell? ⟨U.heap.size, 2, none⟩ = some (.int .i64 fn) ∧ w'.cell? ⟨U.heap.size, 3, none⟩ = some (.int .i64 epoch) ∧ w'.cell? ⟨U.heap.size, 4, none⟩ = some (.int .i64 (max (tick + l) a4)) from fun w' hf => by
        have h1 := H6.out.blk.keep hf (fun e => H6.out.ne e)
        have h2 := K6.out.keep hf (fun e => (K6.out.not_mapK H6.out.map) e)
        have h3 := HX.out.keep hf (fun e => (HX.out.not_mapK H6.out.map) e)
        exact ⟨h1.cell 3, h2.cell 0, h2.cell 1, h2.cell 2, h3.cell 0, h3.cell 1, h3.cell 2, h3.cell 3, h3.cell 4⟩)
      go_region_held_law (fun w' => w'.cell? ⟨g, 3, none⟩ = some (.map (some b)) ∧ w'.cell? ⟨wx.heap.size, 0, none⟩ = some (.int .i64 node) ∧ w'.cell? ⟨wx.heap.size, 1, none⟩ = some (.int .i64 version) ∧ w'.cell? ⟨wx.heap.size, 2, none⟩ = some (.int .i64 fn) ∧ w'.cell? ⟨U.heap.size, 0, none⟩ = some (.int .i64 node) ∧ w'.cell? ⟨U.heap.size, 1, none⟩ = some (.int .i64 version) ∧ w'.cell? ⟨U.heap.size, 2, none⟩ = some (.int .i64 fn) ∧ w'.cell? ⟨U.heap.size, 3, none⟩ = some (.int .i64 epoch) ∧ w'.cell? ⟨U.heap.size, 4, none⟩ = some (.int .i64 (max (tick + l) a4)))
        (first
          | exact KS3.out _ ((Fr.refl _ Y).drew)
          | exact KS3.out _ HK10.out
          | fail)
        (fail)
      all_goals
        obtain ⟨_, _, _, _, n0, n1, n2, n3, n4⟩ := KS3.out _ HK10.out
        have b12 := B6.out.keep HK10.out (fun e => (B6.out.not_mapK H6.out.map) e)
        have m0 := b12.cell 0
        have m1 := b12.cell 1
        have m2 := b12.cell 2
        have m3 := b12.cell 3
        have m4 := b12.cell 4
        have mf := b12.frozen
        have HNB := hid (show b ≠ w.heap.size from fun e => (B6.out.not_mapK H6.out.map) e.symm)
        have HNG := hid (show g ≠ w.heap.size from fun e => HG0.out (e ▸ Nat.le_refl _))
        clear b12
        go_wp2_with fail
        refine ⟨rfl, ?_⟩
        refine ⟨.tuple #[(Ls.mk node version fn epoch (max (tick + l) a4)).val, .int .i64 0], ?_, ?_⟩
        · have hres : Try.f9.results = #[.cell 12 30, .tmp 13] := rfl
          simp [results, hres, asAddr]
          try go_simp
          try rfl
        · have FS : Fr (fun x => x = w.heap.size) w10 (((((w10.setCell ⟨w.heap.size, 0, none⟩ (.int .i64 node)).setCell ⟨w.heap.size, 1, none⟩ (.int .i64 version)).setCell ⟨w.heap.size, 2, none⟩ (.int .i64 fn)).setCell ⟨w.heap.size, 3, none⟩ (.int .i64 epoch)).setCell ⟨w.heap.size, 4, none⟩ (.int .i64 (max (tick + l) a4))) := by
            iterate 5 refine Fr.setCell (S := fun x => x = w.heap.size) ?_ (fun _ => rfl) _
            exact Fr.refl _ _
          have HMV := HM10.out
          rw [put_vals] at HMV
          have T10 : IsTab w10 g b n l s (putT (node, version, fn) ⟨node, version, fn, epoch, max (tick + l) a4⟩ ms) := ⟨H6.out.blk.keep HK10.out (fun e => H6.out.ne e), HMV⟩
          rw [show (wasOf (node, version, fn) ms).till = a4 by rw [HWAS.out]]
          refine ⟨rfl, T10.keep_ FS HNG.out HNB.out, ?_⟩
          exact (((((FV.out.fresh_no FU.out).fresh_no FY.out).mono (S' := fun x => x = b) (fun x _ h => absurd h (not_no x))).trans HK10.out (fun x _ h => h))).trans FS (fun x hx e => absurd hx (by omega))
set_option maxRecDepth 100000 in
set_option maxHeartbeats 1000000 in
theorem grant_epoch {w : World} {g b : Nat} {n l s : Int} {ms : List (K3 × Ls)} (h : IsTab w g b n l s ms) (node version fn epoch tick : Int) (hn : 0 ≤ node ∧ node < n) (hv : 0 ≤ version ∧ version ≤ 1099511627776) (hf : 0 ≤ fn ∧ fn ≤ 1099511627776)
    (he : 0 ≤ epoch ∧ epoch ≤ 1099511627776) (ht : 0 ≤ tick ∧ tick ≤ 1099511627776) (hw : epoch < (wasOf (node, version, fn) ms).epoch) :
    Calls Try.prog 9 #[.pointer (some ⟨g, 0, none⟩), .int .i64 node, .int .i64 version, .int .i64 fn, .int .i64 epoch, .int .i64 tick] w fun e w' =>
      e = .returned (.tuple #[zeroL, .int .i64 151]) ∧ Fr No w w' := by
  obtain ⟨W, hW⟩ : ∃ W, w.alloc (.cells #[.int .i64 0, .int .i64 0, .int .i64 0, .int .i64 0, .int .i64 0] 30) = W := ⟨_, rfl⟩
  have HW := hid hW
  have FW := hid (show Fr No w W from hW ▸ (Fr.refl No w).alloc _)
  have HB := hid (show Blk W w.heap.size 30 #[.int .i64 0, .int .i64 0, .int .i64 0, .int .i64 0, .int .i64 0] from hW ▸ Blk.new w _ _)
  have H := hid (h.keep FW.out)
  obtain ⟨c0, c1, c2, c3, cf⟩ := H.out.blk.four
  clear hW h
  have d1 : ¬ node < 0 := by omega
  have d2 : ¬ n ≤ node := by omega
  have kn := fun (w : World) => run_min4 (P := Try.prog) (w := w) (k := .i64) (ats := #[3, 3, 3, 3]) (ty := 3) version fn epoch tick
  have kx := fun (w : World) => run_max4 (P := Try.prog) (w := w) (k := .i64) (ats := #[3, 3, 3, 3]) (ty := 3) version fn epoch tick
  have d3 : ¬ (min (min (min version fn) epoch) tick) < 0 := by omega
  have d4 : ¬ 1099511627776 < (max (max (max version fn) epoch) tick) := by omega
  go_enter Try.func9, Try.ntmps9
  go_wp2_with fail
  rw [HW.out]
  refine (right_yes H.out.blk).mono ?_
  rintro e wx ⟨rfl, rfl⟩
  go_upto_region 8 with fail
  have HBW := hid (HB.out.alloc (.cells #[.int .i64 node, .int .i64 version, .int .i64 fn] 65))
  obtain ⟨V, hV⟩ : ∃ V, wx.alloc (.cells #[.int .i64 node, .int .i64 version, .int .i64 fn] 65) = V := ⟨_, rfl⟩
  have HV := hid hV
  have FV := hid (show Fr No w V from hV ▸ FW.out.alloc _)
  have HKY := hid (show Blk V wx.heap.size 65 #[.int .i64 node, .int .i64 version, .int .i64 fn] from hV ▸ Blk.new wx _ _)
  have HB4 := hid (show Blk V w.heap.size 30 #[.int .i64 0, .int .i64 0, .int .i64 0, .int .i64 0, .int .i64 0] from hV ▸ HBW.out)
  have H3 := hid (H.out.keep (show Fr No wx V from hV ▸ (Fr.refl No wx).alloc _))
  have HSZ := hid (show w.heap.size < V.heap.size from HB4.out.lt)
  rw [HV.out]
  generalize hq : wasOf (node, version, fn) ms = q at hw
  obtain ⟨a0, a1, a2, a3, a4⟩ := q
  replace hw : epoch < a3 := hw
  have HWAS := hid hq
  have HE := hid hw
  have hle : ∀ w', Fr No V w' → (Instr.lookup 25 (.map (some b)) (.agg #[.int .i64 node, .int .i64 version, .int .i64 fn]) false).run Try.prog w' = .ok (.agg #[.int .i64 a0, .int .i64 a1, .int .i64 a2, .int .i64 a3, .int .i64 a4]) w' := fun w' hf => by
    have := look3 (H3.out.map.keep hf (not_no _)) (node, version, fn)
    rw [HWAS.out] at this
    exact this
  have HLE := hid hle
  have hl0 := HLE.out _ ((Fr.refl No V).drew)
  have hl1 := HLE.out _ (((Fr.refl No V).drew).alloc (.cells #[.int .i64 0, .int .i64 0, .int .i64 0, .int .i64 0, .int .i64 0] 30))
  have hl2 := HLE.out _ (((Fr.refl No V).alloc (.cells #[.int .i64 0, .int .i64 0, .int .i64 0, .int .i64 0, .int .i64 0] 30)).drew)
  have KS := hid (show ∀ w', Fr No V w' → w'.cell? ⟨g, 3, none⟩ = some (.map (some b)) ∧ w'.cell? ⟨wx.heap.size, 0, none⟩ = some (.int .i64 node) ∧ w'.cell? ⟨wx.heap.size, 1, none⟩ = some (.int .i64 version) ∧ w'.cell? ⟨wx.heap.size, 2, none⟩ = some (.int .i64 fn) from fun w' hf => by
    have h1 := H3.out.blk.keep hf (not_no _)
    have h2 := HKY.out.keep hf (not_no _)
    exact ⟨h1.cell 3, h2.cell 0, h2.cell 1, h2.cell 2⟩)
  clear hV hle hq hw c0 c1 c2 c3 cf kn kx
  go_region_held_law (fun w' => w'.cell? ⟨g, 3, none⟩ = some (.map (some b)) ∧ w'.cell? ⟨wx.heap.size, 0, none⟩ = some (.int .i64 node) ∧ w'.cell? ⟨wx.heap.size, 1, none⟩ = some (.int .i64 version) ∧ w'.cell? ⟨wx.heap.size, 2, none⟩ = some (.int .i64 fn))
    (first
      | exact KS.out _ ((Fr.refl No V).drew)
      | exact KS.out _ (((Fr.refl No V).drew).alloc _)
      | exact KS.out _ (((Fr.refl No V).alloc _).drew)
      | fail)
    (fail)
  all_goals
    (try rw [show (V.alloc (.cells #[.int .i64 a0, .int .i64 a1, .int .i64 a2, .int .i64 a3, .int .i64 a4] 30)).drew = V.drew.alloc (.cells #[.int .i64 a0, .int .i64 a1, .int .i64 a2, .int .i64 a3, .int .i64 a4] 30) from rfl])
    have FU0 := ((Fr.refl No V).drew).alloc (.cells #[.int .i64 a0, .int .i64 a1, .int .i64 a2, .int .i64 a3, .int .i64 a4] 30)
    have HOWN0 : Blk (V.drew.alloc (.cells #[.int .i64 a0, .int .i64 a1, .int .i64 a2, .int .i64 a3, .int .i64 a4] 30)) V.heap.size 30 #[.int .i64 a0, .int .i64 a1, .int .i64 a2, .int .i64 a3, .int .i64 a4] := Blk.new V.drew _ _
    clear hl0 hl1 hl2
    generalize V.drew.alloc (.cells #[.int .i64 a0, .int .i64 a1, .int .i64 a2, .int .i64 a3, .int .i64 a4] 30) = U at FU0 HOWN0 ⊢
    have FU := hid FU0
    have HOWN := hid HOWN0
    clear FU0 HOWN0
    have z3 := HOWN.out.cell 3
    have d5 : epoch < a3 := HE.out
    have b12 := HB4.out.keep FU.out (not_no _)
    have m0 := b12.cell 0
    have m1 := b12.cell 1
    have m2 := b12.cell 2
    have m3 := b12.cell 3
    have m4 := b12.cell 4
    have mf := b12.frozen
    clear b12
    go_wp2_with fail
    refine ⟨rfl, ?_⟩
    refine ⟨.tuple #[zeroL, .int .i64 151], ?_, ?_⟩
    · have hres : Try.f9.results = #[.cell 12 30, .tmp 13] := rfl
      simp [results, hres, asAddr]
      try go_simp
      try rfl
    · refine ⟨rfl, ?_⟩
      iterate 5 refine Fr.setCell ?_ (fun h => absurd h (by simp)) _
      exact FV.out.fresh_no FU.out
end Go.Proofs.Ythcebkbedfaoeaa
