import Derived.Test.YtfmoagpfgkokcaaGOpenB
import Derived.Deep.QuietTactic
import Derived.BigQuiet
import Derived.BigRegion
import Derived.Deep.RegionHeld
import Derived.Deep.DrawnRows
/-! Is code more than is looked at? -/
namespace Go.Proofs.Ytfmoagpfgkokcaa
open Go.RowKit
set_option linter.unusedVariables false
set_option linter.unusedSimpArgs false
attribute [local go_sem ↓] Go.wp_at_zero Go.wp_at_succ

def RetB (w : World) : Ending → World → Prop := fun e w' => ∃ b, e = .returned (.bool b) ∧ Fr No w w'
set_option maxRecDepth 100000 in
set_option maxHeartbeats 4000000 in
theorem great14_c (w : World) (fn regs : Int) (Ac Ax An : Option Addr) (nc cc cx nn cn : Nat) (exits : List (List BackV)) (hx : RdX w (.slice Ax exits.length cx) exits) (hxl : exits.length * 24 ≤ 140737488355328) (hnc : nc * 56 ≤ 140737488355328) (hnn : nn * 16 ≤ 140737488355328) :
    Calls Try.prog 33 #[.agg #[.int .i64 fn, .int .i64 regs, .slice Ac nc cc, .slice Ax exits.length cx, .slice An nn cn]] w (RetB w) := by
  have HX0 := hid hx
  have HXL := hid hxl
  have HF0 := hid ((Fr.refl No w).alloc (.cells #[.int .i64 fn, .int .i64 regs, .slice Ac nc cc, .slice Ax exits.length cx, .slice An nn cn] 26))
  have HB0 := hid (Blk.new w 26 #[.int .i64 fn, .int .i64 regs, .slice Ac nc cc, .slice Ax exits.length cx, .slice An nn cn])
  have b2 := HB0.out.cell 2
  have b3 := HB0.out.cell 3
  have b4 := HB0.out.cell 4
  obtain ⟨es1, hes1, hr1, hall1⟩ := hx
  have HES := hid hes1
  have HR1 := hid hr1
  have HALL := hid hall1
  have HEL := hid (show es1.length = exits.length by rw [← hes1, List.length_map])
  clear hes1 hr1 hall1
  go_enter Try.func33, Try.ntmps33
  go_wp2_with fail
  clear b2 b3 b4
  go_loopg [3, 20] exits.length (fun q v3 v20 w' => ∃ (j : Nat) (m : Int), v3 = .int .i64 m ∧ v20 = .int .i64 j ∧ j ≤ exits.length ∧ q = exits.length - j ∧ Hid (Fr No w w') ∧ Hid (Blk w' w.heap.size 26 #[.int .i64 fn, .int .i64 regs, .slice Ac nc cc, .slice Ax exits.length cx, .slice An nn cn]))
  case atStart => exact ⟨0, _, rfl, rfl, Nat.zero_le _, rfl, HF0.out, HB0.out⟩
  case round =>
    clear HF0 HB0
    obtain ⟨j, m, rfl, rfl, hj, hq, HF, HB⟩ := hrel
    have HQ := hid hq
    clear hq
    have b3 := HB.out.cell 3
    by_cases d1 : j < exits.length
    · have d2 : (j : Int) < exits.length := by omega
      have hj1 : j < es1.length := by rw [HEL.out]; exact d1
      have he1 : es1[j]? = some es1[j] := List.getElem?_eq_getElem hj1
      have hal := HALL.out _ (List.getElem_mem hj1)
      generalize es1[j] = e1 at he1 hal
      have HE1 := hid he1
      have HLB := hid (hal.1.keep HF.out)
      have HLL := hid hal.2
      obtain ⟨bx, ox, cx', u, hAx, _, hu, hcell⟩ := (HR1.out.keep HF.out (fun k _ => not_no k)).at_ d1
      injection hAx with hAx _ hcx
      subst hAx
      have hue : e1.v = u := by
        rw [List.getElem?_map, HE1.out] at hu
        exact Option.some.inj hu
      subst hue
      clear hu he1 hal hcx
      obtain ⟨ms, hms, hrm, hok⟩ := HLB.out
      have hml : e1.l.length = ms.length := by rw [← hms, List.length_map]
      rw [hml] at hrm
      have hmll : ms.length * 64 ≤ 140737488355328 := by rw [← hml]; exact HLL.out
      have HRM := hid hrm
      have HOK := hid hok
      obtain ⟨A5, c5, hv5, hc5, _⟩ := hrm
      clear hms hok hml HLB
      rw [hv5] at hcell
      have HV5 := hid hv5
      have HCE := hid hcell
      clear hv5
      go_wp2_with fail
      go_loopg [3, 37] ms.length (fun q v3 v37 w' => ∃ (k : Nat) (m : Int), v3 = .int .i64 m ∧ v37 = .int .i64 k ∧ k ≤ ms.length ∧ q = ms.length - k ∧ Hid (Fr No wr w'))
      case atStart => exact ⟨0, _, rfl, rfl, Nat.zero_le _, rfl, Fr.refl No wr⟩
      case round =>
        have HFO := HF
        have HBO := HB
        obtain ⟨k, m2, rfl, rfl, hk, hq, HF2⟩ := hrel
        have HQ2 := hid hq
        clear hq b3 hcell
        by_cases d3 : k < ms.length
        · have d4 : (k : Int) < ms.length := by omega
          have hm : ms[k]? = some ms[k] := List.getElem?_eq_getElem d3
          have hmo := (HOK.out _ (List.getElem_mem d3)).keep HF2.out
          generalize ms[k] = m at hm hmo
          obtain ⟨A6, c6, hv6, hc6, hl6, hr6⟩ := HRM.out.keep HF2.out (fun k _ => not_no k)
          rw [HV5.out] at hv6
          injection hv6 with hA6 _ hc66
          subst hA6 hc66
          obtain ⟨b5, o5, rfl, hb5, hcl⟩ := hr6 (by omega)
          have e2 := hcl _ _ ((rows_get (c := BackM.cells) (s := 4) back_len hm 2 (by omega)).trans rfl)
          have e3 := hcl _ _ ((rows_get (c := BackM.cells) (s := 4) back_len hm 3 (by omega)).trans rfl)
          obtain ⟨Av, cv2, hvv, _⟩ := hmo.1
          obtain ⟨As, cs2, hsv, _⟩ := hmo.2.1
          obtain ⟨vm, vv, sv⟩ := m
          dsimp only at e2 e3
          replace hvv : vv = .slice Av vm.vars.length cv2 := hvv
          replace hsv : sv = .slice As vm.stack.length cs2 := hsv
          subst hvv hsv
          rw [← Nat.add_assoc] at e2 e3
          clear hm hmo hl6 hcl
          have b3 := (HBO.out.keep HF2.out (not_no _)).cell 3
          obtain ⟨bx', ox', cx2, u2, hAx2, _, hu2, hcell2⟩ := (HR1.out.keep (HFO.out.fresh_no HF2.out) (fun k _ => not_no k)).at_ d1
          injection hAx2 with hAx2 _ q3
          clear q3
          injection hAx2 with hAx2
          injection hAx2 with q1 q2 _
          subst q1 q2
          have hue2 : e1.v = u2 := by
            rw [List.getElem?_map, HE1.out] at hu2
            exact Option.some.inj hu2
          rw [← hue2, HV5.out] at hcell2
          clear hu2 hue2
          go_wp2_with fail
          go_quiet (fail)
          have HF3 := hid (HF2.out.drewN nq)
          clear b3 hcell2 e2 e3
          go_wp2_with fail
          go_roundg (ms.length - (k + 1))
          case measure => have := HQ2.out; omega
          case rel => exact ⟨k + 1, wrap64 (m2 + wrap64 ((vm.vars.length : Int) + (vm.stack.length : Int))), rfl, by go_num, by omega, rfl, HF3⟩
        · have d4 : ¬ (k : Int) < ms.length := by omega
          have HF3 := hid (HFO.out.fresh_no HF2.out)
          have HB3 := hid (HBO.out.keep HF2.out (not_no _))
          go_wp2_with fail
          go_roundg (exits.length - (j + 1))
          case measure => have := HQ.out; omega
          case rel => exact ⟨j + 1, _, rfl, by go_num, by omega, rfl, HF3, HB3⟩
    · have d2 : ¬ (j : Int) < exits.length := by omega
      by_cases d5 : (20000 : Int) < m
      · go_wp2_with fail
        go_ret
        exact ⟨_, rfl, HF.out⟩
      · go_wp2_with fail
        go_ret
        exact ⟨_, rfl, HF.out⟩
end Go.Proofs.Ytfmoagpfgkokcaa
