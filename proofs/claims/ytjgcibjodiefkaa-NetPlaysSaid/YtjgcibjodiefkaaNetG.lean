import Derived.Test.YtjgcibjodiefkaaNetSpares
import Derived.Test.YtjgcibjodiefkaaOps
import Derived.Deep.RegionHeld3
/-! The statements' own functions: holds, filled. -/
namespace Go.Proofs.Ytjgcibjodiefkaa
open Go.RowKit
set_option linter.unusedVariables false
set_option linter.unusedSimpArgs false

/-- a call of a function of two arguments, maybe behind a guard, as one step of a region that draws -/
theorem step_fn2w {P : Program} {ops : Array Oper} {o : Oper} {a : Act} {w : World} {K : Act → World → Prop} {Q : Exit → Act → World → Prop} {E : Prop} (hw : Region.wanted o (yielded ops a.tmps) = true) (f : FuncId) (x y : Operand) (t t2 : TypeId)
    (ho : o.op = .call { callee := .value (.func f), args := #[x, y], argTypes := #[t, t2] }) (v v2 : Value) (hx : a.eval x = v) (hy : a.eval y = v2) (R : Value → World → Prop)
    (hc : Calls P f #[v, v2] w fun e w' => ∃ r, e = .returned r ∧ R r w') (hcf : (callFunc f #[v, v2]).run P w = .ok (.enter f #[v, v2]) w) (h : ∀ r w', R r w' → K (a.put o.dst r) w') :
    if Region.wanted o (yielded ops a.tmps) = true then Oper.wp P o a w K Q else E := by
  rw [if_pos hw]
  have he : (execOp a.eval o).run P w = .ok (.enter f #[v, v2]) w := by
    have hf : a.eval (.func f) = .func (.func f) #[] #[] := rfl
    simp [execOp, ho, resolve, invoke, hx, hy, hf, Deferred.ofValue, hcf]
  unfold Oper.wp
  rw [he, Oper.upon_enter]
  refine hc.mono ?_
  rintro e w' ⟨r, rfl, hr⟩
  exact h r w' hr

theorem Rd.slice_ {size : Nat} {w : World} {v : Value} {n : Nat} {xs : List Value} (h : Rd size w v n xs) : ∃ A c, v = .slice A n c ∧ n ≤ c ∧ True := by
  obtain ⟨A, c, rfl, hc, _⟩ := h
  exact ⟨A, c, rfl, hc, trivial⟩
/-- the k-th datagram of a list that is read -/
theorem rdG_at {w : World} {v : Value} {m : List Gr} (h : Rd 3 w v m.length (rows Gr.cells m)) (hd : ∀ p ∈ m, RdB w p.v p.b) {k : Nat} (hk : k < m.length) :
    ∃ b off c p A' c', v = .slice (some ⟨b, off, none⟩) m.length c ∧ m.length ≤ c ∧ m[k]? = some p ∧ p ∈ m ∧ p.v = .slice A' p.b.length c' ∧
      w.cell? ⟨b, off + k * 3, none⟩ = some (.int .i64 p.a) ∧ w.cell? ⟨b, off + k * 3 + 1, none⟩ = some (.int .i64 p.z) ∧ w.cell? ⟨b, off + k * 3 + 2, none⟩ = some (.slice A' p.b.length c') := by
  obtain ⟨A, c, rfl, hc, hl, hr⟩ := h
  obtain ⟨b, off, rfl, hb, hx⟩ := hr (by omega)
  have hp : m[k]? = some m[k] := by simp [hk]
  have hm : m[k] ∈ m := List.getElem_mem hk
  generalize m[k] = p at hp hm
  obtain ⟨A', c', e, _⟩ := (hd p hm).slice
  refine ⟨b, off, c, p, A', c', rfl, hc, hp, hm, e, ?_, ?_, ?_⟩
  · exact hx _ _ (rows_get Gr.cells_length hp 0 (by omega))
  · rw [Nat.add_assoc]; exact hx _ _ (rows_get Gr.cells_length hp 1 (by omega))
  · rw [Nat.add_assoc, ← e]; exact hx _ _ (rows_get Gr.cells_length hp 2 (by omega))

set_option maxRecDepth 100000 in
set_option maxHeartbeats 2000000 in
theorem holds_c {w : World} {g : Nat} {F : Nat → Prop} {nodes : Int} {m : List Gr} (h : IsN w g F nodes (m.map Gr.abs)) (v : Value) (hr : Rd 3 w v m.length (rows Gr.cells m)) (hd : ∀ p ∈ m, RdB w p.v p.b) :
    Calls Try.prog 28 #[.pointer (some ⟨g, 0, none⟩), v] w (RetT w) := by
  obtain ⟨A, c, rfl, hc, _⟩ := hr.slice_
  have H := hid h
  have HR := hid hr
  have HD := hid hd
  have hml : m.length ≤ 4096 := by simpa using h.len
  clear h hr hd
  go_enter Try.func28, Try.ntmps28
  go_wp2_with fail
  refine (flying_c H.out).mono ?_
  rintro e wx ⟨rfl, rfl⟩
  rw [List.length_map]
  go_wp2_with fail
  go_loopg [5] m.length (fun q v5 w' => ∃ i : Nat, v5 = .int .i64 i ∧ i ≤ m.length ∧ q = m.length - i ∧ Hid (Fr No wx w'))
  case atStart => exact ⟨0, rfl, by omega, rfl, Fr.refl _ _⟩
  case round =>
    obtain ⟨i, rfl, hi, hq, HF⟩ := hrel
    have HQ := hid hq
    clear hq
    by_cases d1 : i < m.length
    · have d2 : (i : Int) < m.length := by omega
      go_wp2_with fail
      obtain ⟨b, off, c1, p, A', c', hv, hc', hp, hpm, hpv, _, _, _⟩ := rdG_at HR.out HD.out d1
      have hz : (m.map Gr.abs)[i]? = some p.abs := by rw [List.getElem?_map, hp]; rfl
      refine (look_c (H.out.keep_no HF.out) i _ (look_ok hz)).mono ?_
      rintro e w5 ⟨v5, rfl, O, F', G⟩
      replace O : OwnB 5 w5 v5 p.b := O
      obtain ⟨A5, c5, rfl, hc5⟩ := O.slice
      have hF5 := F'.alloc (.cells #[.int .i64 p.a, .int .i64 p.z, .slice A5 p.b.length c5] 29)
      have F5 := hid (HF.out.fresh_no hF5)
      have O5 := hid (O.alloc (.cells #[.int .i64 p.a, .int .i64 p.z, .slice A5 p.b.length c5] 29))
      have D5 := hid (Blk.new w5 29 #[.int .i64 p.a, .int .i64 p.z, .slice A5 p.b.length c5])
      obtain ⟨b', off', c1', p', A'', c'', hv', hc'', hp', hpm', hpv', r0, r1, r2⟩ := rdG_at (HR.out.keep F5.out (fun k _ => not_no k)) (fun q hq => (HD.out q hq).keep F5.out (fun k _ => not_no k)) d1
      have e1 : p' = p := by rw [hp] at hp'; exact (Option.some.inj hp').symm
      subst e1
      injection hv' with hv' _ hcc
      subst hv' hcc
      have P5 := hid (show RdB (w5.alloc (.cells #[.int .i64 p'.a, .int .i64 p'.z, .slice A5 p'.b.length c5] 29)) (.slice A'' p'.b.length c'') p'.b from by rw [← hpv']; exact (HD.out p' hpm).keep F5.out (fun k _ => not_no k))
      obtain ⟨a0, a1, a2, af⟩ := D5.out.three
      unfold Gr.abs
      clear O F' G hF5 hz hp hp' hpv hpv' hv hpm hpm'
      go_wp2_with fail
      go_region_law ((first
        | (refine step_fn2w (by rfl) 24 (.tmp 30) (.tmp 34) 29 29 (by rfl) _ _ (by rfl) (by rfl) (fun v w' => v = .bool true ∧ Fr No (w5.alloc (.cells #[.int .i64 p'.a, .int .i64 p'.z, .slice A5 p'.b.length c5] 29)).drew w') ((same_g _ p'.a p'.z p'.a p'.z _ _ p'.b p'.b (O5.out.rd.heap (by rfl)) (P5.out.heap (by rfl)) true (by simp)).mono (fun e w' h => ⟨_, h.1, rfl, h.2⟩)) (by rfl) ?_
           intro v7 w7 hq7
           obtain ⟨rfl, F7⟩ := hq7
           have HF7 := hid F7
           clear F7)))
      all_goals
       have F8 := hid ((F5.out.drew).fresh_no HF7.out)
       go_wp2_with fail
       go_roundg (m.length - (i + 1))
       case measure => have := HQ.out; omega
       case rel => exact ⟨i + 1, by go_num, by omega, rfl, F8⟩
    · have hi2 : i = m.length := by omega
      subst hi2
      clear d1
      go_wp2_with fail
      refine (look_c (H.out.keep_no HF.out) _ ((0, 0, []), false) (by unfold lookL; rw [if_neg (by simp)])).mono ?_
      rintro e w5 ⟨v5, rfl, O, F', G⟩
      replace O : OwnB 5 w5 v5 [] := O
      obtain ⟨A5, c5, rfl, hc5⟩ := O.slice
      have F5 := hid (HF.out.fresh_no (F'.alloc (.cells #[.int .i64 0, .int .i64 0, .slice A5 0 c5] 29)))
      clear O F' G
      go_wp2_with fail
      go_ret
      exact ⟨rfl, F5.out⟩
end Go.Proofs.Ytjgcibjodiefkaa
