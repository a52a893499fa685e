import Derived.Test.YtfmoagpfgkokcaaGD
import Derived.Deep.DeepCutAuto
import Derived.Deep.DrawnRows
/-! Code copied. -/
namespace Go.Proofs.Ytfmoagpfgkokcaa
open Go.RowKit
set_option linter.unusedVariables false
set_option linter.unusedSimpArgs false

def Sep (w0 w : World) (vx : Value) : Nat → Prop := fun x => w0.heap.size + 2 ≤ x ∧ ¬ Of vx x ∧ x < w.heap.size
/-- while exits are copied -/
structure Cp (w0 w : World) (fn regs : Int) (code : List SpecV) (needs : List (Int × Int)) (cv nv vx : Value) (es : List ExM) : Prop where
  box : Blk w w0.heap.size 26 #[.int .i64 fn, .int .i64 regs, cv, vx, nv]
  res : Blk w (w0.heap.size + 1) 26 #[.int .i64 0, .int .i64 0, .slice none 0 0, .slice none 0 0, .slice none 0 0]
  cd : Own 60 7 w cv code.length (scells code)
  nd : OwnN w nv needs
  out : Own 79 1 w vx es.length (es.map (·.v))
  exs : ∀ e ∈ es, RdLB (Sep w0 w vx) w e.v e.l ∧ e.l.length * 64 ≤ 140737488355328
  ncd : NewV (Sep w0 w vx) cv
  nnd : NewV (Sep w0 w vx) nv
  nout : NewV (From (w0.heap.size + 2)) vx
  fr : Fr No w0 w
section
variable {w0 w w' : World} {fn regs : Int} {code : List SpecV} {needs : List (Int × Int)} {cv nv vx vx' : Value} {es : List ExM}
theorem Sep.grow (hf : w.heap.size ≤ w'.heap.size) : ∀ x, Sep w0 w vx x → Sep w0 w' vx x := fun x h => ⟨h.1, h.2.1, Nat.lt_of_lt_of_le h.2.2 hf⟩
theorem Cp.keep (h : Cp w0 w fn regs code needs cv nv vx es) (hf : Fr No w w') : Cp w0 w' fn regs code needs cv nv vx es :=
  ⟨h.box.keep hf (not_no _), h.res.keep hf (not_no _), h.cd.keep hf (fun x _ => not_no x), h.nd.keep hf (fun x _ => not_no x), h.out.keep hf (fun x _ => not_no x), fun e he => ⟨((h.exs e he).1.keep hf (fun x _ => not_no x)).older (Sep.grow hf.size), (h.exs e he).2⟩, h.ncd.mono (Sep.grow hf.size), h.nnd.mono (Sep.grow hf.size), h.nout, h.fr.fresh_no hf⟩
/-- one more -/
theorem Cp.more (h : Cp w0 w fn regs code needs cv nv vx es) {e : ExM} (he : RdLB (Sep w0 w vx) w e.v e.l) (hl : e.l.length * 64 ≤ 140737488355328) (ho : Own 79 1 w' vx' (es.length + 1) (es.map (·.v) ++ [e.v])) (hf : Fr (Of vx) w w') (hn : ∀ k, Of vx' k → Of vx k ∨ k = w.heap.size) :
    Cp w0 (w'.setCell ⟨w0.heap.size, 3, none⟩ vx') fn regs code needs cv nv vx' (es ++ [e]) := by
  have hsz : w0.heap.size + 2 ≤ w.heap.size := by have := h.res.lt; omega
  have nvx : ∀ k, Of vx k → w0.heap.size + 2 ≤ k := h.nout
  have hnew : NewV (From (w0.heap.size + 2)) vx' := fun k hk => (hn k hk).elim (h.nout k) (fun e => by rw [e]; exact hsz)
  have hfs : Fr (fun x => x = w0.heap.size) w' (w'.setCell ⟨w0.heap.size, 3, none⟩ vx') := Fr.setCell (S := fun x => x = w0.heap.size) (Fr.refl _ w') (p := ⟨w0.heap.size, 3, none⟩) (fun _ => rfl) vx'
  have s1 : ∀ x, Sep w0 w vx x → ¬ Of vx x := fun x hx => hx.2.1
  have s2 : ∀ x, Sep w0 w vx x → ¬ x = w0.heap.size := fun x hx e => by have := hx.1; omega
  have s3 : ∀ x, Sep w0 w vx x → Sep w0 (w'.setCell ⟨w0.heap.size, 3, none⟩ vx') vx' x := fun x hx => ⟨hx.1, fun ho => (hn x ho).elim hx.2.1 (fun e => by have := hx.2.2; omega), Nat.lt_of_lt_of_le hx.2.2 (Nat.le_trans hf.size hfs.size)⟩
  have hbox : Blk w' w0.heap.size 26 #[.int .i64 fn, .int .i64 regs, cv, vx, nv] := h.box.keep hf (fun e => by have := nvx _ e; omega)
  refine ⟨hbox.set_ 3 vx', (h.res.keep hf (fun e => by have := nvx _ e; omega)).keep hfs (by omega), (h.cd.keep hf (h.ncd.no s1)).keep hfs (h.ncd.no s2), (h.nd.keep hf (h.nnd.no s1)).keep hfs (h.nnd.no s2), ?_, ?_, h.ncd.mono s3, h.nnd.mono s3, hnew, ?_⟩
  · rw [List.length_append, List.length_singleton, List.map_append]
    exact ho.keep hfs (fun k hk e => by have h1 : w0.heap.size + 2 ≤ k := hnew k hk; omega)
  · intro e' he'
    rcases List.mem_append.1 he' with h1 | h1
    · exact ⟨(((h.exs e' h1).1.keep hf s1).keep hfs s2).older s3, (h.exs e' h1).2⟩
    · rw [List.mem_singleton.1 h1]
      exact ⟨((he.keep hf s1).keep hfs s2).older s3, hl⟩
  · exact (h.fr.fresh hf (fun k hk => by have := nvx k hk; omega)).fresh hfs (fun k e => by omega)
end
theorem Cp.done {w0 w w' : World} {fn regs : Int} {code : List SpecV} {needs : List (Int × Int)} {cv nv vx : Value} {es : List ExM} {exits : List (List BackV)} (h : Cp w0 w fn regs code needs cv nv vx es) (hf : Fr (fun x => x = w0.heap.size + 1) w w') (hl : es.map (·.l) = exits) : CopyOf w0 w' code exits needs cv vx nv := by
  have s1 : ∀ x, Sep w0 w vx x → ¬ x = w0.heap.size + 1 := fun x hx e => by have := hx.1; omega
  have s2 : ∀ x, Sep w0 w vx x → From w0.heap.size x := fun x hx => by have := hx.1; show w0.heap.size ≤ x; omega
  have s3 : ∀ x, From (w0.heap.size + 2) x → ¬ x = w0.heap.size + 1 := fun x hx e => by have h1 : w0.heap.size + 2 ≤ x := hx; omega
  have hln : exits.length = es.length := by rw [← hl, List.length_map]
  refine ⟨h.cd.keep hf (h.ncd.no s1), h.nd.keep hf (h.nnd.no s1), ⟨⟨es, hl, ?_, fun e he => ⟨((h.exs e he).1.keep hf s1).older s2, (h.exs e he).2⟩⟩, h.nout.mono (fun x hx => by have h1 : w0.heap.size + 2 ≤ x := hx; show w0.heap.size ≤ x; omega)⟩, h.ncd.mono s2, h.nnd.mono s2, h.fr.fresh hf (fun x e => by omega)⟩
  rw [hln]
  exact h.out.rd.keep hf (h.nout.no s3)
theorem Rd.oneV (w : World) (t : TypeId) (v : Value) : Rd 1 (w.alloc (.cells #[v] t)) (.slice (some ⟨w.heap.size, 0, none⟩) 1 1) 1 [v] := by
  refine ⟨some ⟨w.heap.size, 0, none⟩, 1, rfl, by omega, rfl, fun _ => ⟨w.heap.size, 0, rfl, by simp, fun j u hu => ?_⟩⟩
  have h := (Blk.new w t #[v]).cell j
  rw [Nat.zero_add, h]
  simpa using hu
theorem bcells_set (a b : List BackM) (m m' : BackM) (hv : m'.v = m.v) : bcells (a ++ m' :: b) = ((bcells (a ++ m :: b)).set (a.length * 4 + 2) m'.vv).set (a.length * 4 + 3) m'.sv := by
  unfold bcells
  rw [rows_append, rows_append, rows_cons, rows_cons]
  have hl := rows_length (c := BackM.cells) (s := 4) back_len a
  rw [List.set_append_right _ _ (by omega), List.set_append_right _ _ (by omega)]
  rw [show a.length * 4 + 2 - (rows BackM.cells a).length = 2 by omega, show a.length * 4 + 3 - (rows BackM.cells a).length = 3 by omega]
  unfold BackM.cells
  rw [hv]
  rfl
theorem bcells_at {a b : List BackM} {m : BackM} (j : Nat) (hj : j < 4) : (bcells (a ++ m :: b))[a.length * 4 + j]? = m.cells[j]? := by
  unfold bcells
  exact rows_get (c := BackM.cells) (s := 4) back_len (by simp) j hj
/-- while an exit's frames are copied -/
structure Bk (w5 w : World) (gb cap : Nat) (ms nw : List BackM) (k : Nat) : Prop where
  row : Own 81 4 w (.slice (some ⟨gb, 0, none⟩) ms.length cap) ms.length (bcells (nw ++ ms.drop k))
  len : nw.length = k
  same : nw.map (·.v) = (ms.take k).map (·.v)
  new : ∀ m ∈ nw, m.ok w ∧ NewV (Btw w5 w) m.vv ∧ NewV (Btw w5 w) m.sv
section
variable {w5 w w' : World} {gb cap k : Nat} {ms nw : List BackM}
theorem Bk.keep (h : Bk w5 w gb cap ms nw k) (hf : Fr No w w') : Bk w5 w' gb cap ms nw k := ⟨h.row.keep hf (fun x _ => not_no x), h.len, h.same, fun m hm => ⟨(h.new m hm).1.keep hf, (h.new m hm).2.1.mono (fun x hx => ⟨hx.1, Nat.lt_of_lt_of_le hx.2 hf.size⟩), (h.new m hm).2.2.mono (fun x hx => ⟨hx.1, Nat.lt_of_lt_of_le hx.2 hf.size⟩)⟩⟩
theorem Bk.more (h : Bk w5 w gb cap ms nw k) {m : BackM} (hm : ms[k]? = some m) {v2 v3 : Value} (h2 : RdV w v2 m.v.vars) (h3 : RdV w v3 m.v.stack) (hl2 : m.v.vars.length * 8 ≤ 140737488355328) (hl3 : m.v.stack.length * 8 ≤ 140737488355328) (n2 : NewV (Btw w5 w) v2) (n3 : NewV (Btw w5 w) v3) (hg : gb < w5.heap.size) :
    Bk w5 ((w.setCell ⟨gb, k * 4 + 2, none⟩ v2).setCell ⟨gb, k * 4 + 3, none⟩ v3) gb cap ms (nw ++ [⟨m.v, v2, v3⟩]) (k + 1) := by
  have hk : k < ms.length := by
    rcases Nat.lt_or_ge k ms.length with h | h
    · exact h
    · rw [List.getElem?_eq_none h] at hm; cases hm
  have hd : ms.drop k = m :: ms.drop (k + 1) := by
    rw [List.getElem?_eq_getElem hk] at hm
    injection hm with hm
    rw [← hm]
    exact (List.getElem_cons_drop ..).symm
  have hf : Fr (fun x => x = gb) w ((w.setCell ⟨gb, k * 4 + 2, none⟩ v2).setCell ⟨gb, k * 4 + 3, none⟩ v3) := by
    iterate 2 refine Fr.setCell (S := fun x => x = gb) ?_ (fun _ => rfl) _
    exact Fr.refl _ _
  have ok2 : ∀ {m : BackM}, m.ok w → NewV (Btw w5 w) m.vv → NewV (Btw w5 w) m.sv → m.ok ((w.setCell ⟨gb, k * 4 + 2, none⟩ v2).setCell ⟨gb, k * 4 + 3, none⟩ v3) := fun ho q2 q3 =>
    ⟨Rd.keep ho.1 hf (fun x hx e => by have := (q2 x hx).1; omega), Rd.keep ho.2.1 hf (fun x hx e => by have := (q3 x hx).1; omega), ho.2.2⟩
  have gr : ∀ x, Btw w5 w x → Btw w5 ((w.setCell ⟨gb, k * 4 + 2, none⟩ v2).setCell ⟨gb, k * 4 + 3, none⟩ v3) x := fun x hx => ⟨hx.1, Nat.lt_of_lt_of_le hx.2 hf.size⟩
  refine ⟨?_, by rw [List.length_append, h.len]; rfl, ?_, fun m' hm' => ?_⟩
  · have hr := h.row
    rw [hd] at hr
    have h4 := (hr.set (k * 4 + 2) v2).set (k * 4 + 3) v3
    rw [← h.len, ← bcells_set nw (ms.drop (nw.length + 1)) m ⟨m.v, v2, v3⟩ rfl] at h4
    rw [List.append_assoc]
    rw [h.len] at h4
    exact h4
  · rw [List.map_append, h.same, List.take_add_one, hm, List.map_append]
    rfl
  · rcases List.mem_append.1 hm' with h1 | h1
    · obtain ⟨o, q2, q3⟩ := h.new m' h1
      exact ⟨ok2 o q2 q3, q2.mono gr, q3.mono gr⟩
    · rw [List.mem_singleton.1 h1]
      exact ⟨ok2 ⟨h2, h3, hl2, hl3⟩ n2 n3, n2.mono gr, n3.mono gr⟩
/-- the cells of the next one -/
theorem Bk.next (h : Bk w5 w gb cap ms nw k) {m : BackM} (hm : ms[k]? = some m) : w.cell? ⟨gb, k * 4, none⟩ = some (.int .i64 m.v.fn) ∧ w.cell? ⟨gb, k * 4 + 1, none⟩ = some (.int .i64 m.v.at_) ∧ w.cell? ⟨gb, k * 4 + 2, none⟩ = some m.vv ∧ w.cell? ⟨gb, k * 4 + 3, none⟩ = some m.sv := by
  have hk : k < ms.length := by
    rcases Nat.lt_or_ge k ms.length with h | h
    · exact h
    · rw [List.getElem?_eq_none h] at hm; cases hm
  have hd : ms.drop k = m :: ms.drop (k + 1) := by
    rw [List.getElem?_eq_getElem hk] at hm
    injection hm with hm
    rw [← hm]
    exact (List.getElem_cons_drop ..).symm
  have hr := h.row
  rw [hd] at hr
  have hc : ∀ j u, (bcells (nw ++ m :: ms.drop (k + 1)))[j]? = some u → w.cell? ⟨gb, j, none⟩ = some u := fun j u hu => hr.cells (g := gb) rfl j u hu
  rw [← h.len]
  exact ⟨hc _ _ ((bcells_at 0 (by omega)).trans rfl), hc _ _ ((bcells_at 1 (by omega)).trans rfl), hc _ _ ((bcells_at 2 (by omega)).trans rfl), hc _ _ ((bcells_at 3 (by omega)).trans rfl)⟩
theorem Bk.done (h : Bk w5 w gb cap ms nw k) (hk : k = ms.length) {P : Nat → Prop} (hP : ∀ x, Btw w5 w x → P x) (hg : P gb) : RdLB P w (.slice (some ⟨gb, 0, none⟩) ms.length cap) (ms.map (·.v)) := by
  subst hk
  have hr := h.row
  rw [List.drop_length, List.append_nil] at hr
  have hs := h.same
  rw [List.take_length] at hs
  refine ⟨⟨nw, hs, ?_, fun m hm => ?_⟩, fun x hx => by have : x = gb := Of_some.1 hx; rw [this]; exact hg⟩
  · rw [List.length_map]; exact hr.rd
  · obtain ⟨o, q2, q3⟩ := h.new m hm
    exact ⟨o, q2.mono hP, q3.mono hP⟩
end
theorem infoL : (Try.prog.info? 79).map (fun i => (i.zero, i.size, i.bytes)) = some (some (.slice none 0 0), 1, 24) := by kernel_rfl
set_option maxRecDepth 100000 in
set_option maxHeartbeats 4000000 in
theorem copied_c (w : World) (fn regs : Int) (cv xv nv : Value) (code : List SpecV) (exits : List (List BackV)) (needs : List (Int × Int)) (hc : RdS w cv code) (hcl : code.length * 56 ≤ 140737488355328) (hx : RdX w xv exits) (hxl : exits.length * 24 ≤ 140737488355328) (hn : RdN w nv needs) (hnl : needs.length * 16 ≤ 140737488355328) :
    Calls Try.prog 28 #[.agg #[.int .i64 fn, .int .i64 regs, cv, xv, nv]] w fun e w' => ∃ cv' xv' nv', e = .returned (.agg #[.int .i64 fn, .int .i64 regs, cv', xv', nv']) ∧ CopyOf w w' code exits needs cv' xv' nv' := by
  have HC0 := hid hc
  have HX0 := hid hx
  have HN0 := hid hn
  have HCL := hid hcl
  have HXL := hid hxl
  have HNL := hid hnl
  obtain ⟨Ac, cc, rfl, hcc, _⟩ := hc
  obtain ⟨es0, _, ⟨Ax, cx, rfl, hcx, _⟩, _⟩ := hx
  obtain ⟨An, cn, rfl, hcn, _⟩ := hn
  obtain ⟨W, hW⟩ : ∃ W, (w.alloc (.cells #[.int .i64 fn, .int .i64 regs, .slice Ac code.length cc, .slice Ax exits.length cx, .slice An needs.length cn] 26)).alloc (.cells #[.int .i64 0, .int .i64 0, .slice none 0 0, .slice none 0 0, .slice none 0 0] 26) = W := ⟨_, rfl⟩
  have HW := hid hW
  have FW := hid (show Fr No w W from hW ▸ ((Fr.refl No w).alloc _).alloc _)
  have HX := hid (show Blk W w.heap.size 26 #[.int .i64 fn, .int .i64 regs, .slice Ac code.length cc, .slice Ax exits.length cx, .slice An needs.length cn] from hW ▸ (Blk.new w _ _).alloc _)
  have HY := hid (show Blk W (w.heap.size + 1) 26 #[.int .i64 0, .int .i64 0, .slice none 0 0, .slice none 0 0, .slice none 0 0] from hW ▸ by
    have := Blk.new (w.alloc (.cells #[.int .i64 fn, .int .i64 regs, .slice Ac code.length cc, .slice Ax exits.length cx, .slice An needs.length cn] 26)) 26 #[.int .i64 0, .int .i64 0, .slice none 0 0, .slice none 0 0, .slice none 0 0]
    rwa [show (w.alloc (.cells #[.int .i64 fn, .int .i64 regs, .slice Ac code.length cc, .slice Ax exits.length cx, .slice An needs.length cn] 26)).heap.size = w.heap.size + 1 by simp] at this)
  clear hW hcl hnl
  go_enter Try.func28, Try.ntmps28
  go_upto_region 1 with fail
  rw [HW.out]
  go_cut [1] (fun s1 wq => s1 = .pointer (some ⟨w.heap.size, 0, none⟩) ∧ ∃ (A2 A3 : Option Addr) (c2 c3 : Nat), Hid (Blk wq w.heap.size 26 #[.int .i64 fn, .int .i64 regs, .slice A2 code.length c2, .slice Ax exits.length cx, .slice A3 needs.length c3]) ∧ Hid (Blk wq (w.heap.size + 1) 26 #[.int .i64 0, .int .i64 0, .slice none 0 0, .slice none 0 0, .slice none 0 0]) ∧
    Hid (Own 60 7 wq (.slice A2 code.length c2) code.length (scells code)) ∧ Hid (OwnN wq (.slice A3 needs.length c3) needs) ∧ Hid (NewV (Sep w wq (.slice none 0 0)) (.slice A2 code.length c2)) ∧ Hid (NewV (Sep w wq (.slice none 0 0)) (.slice A3 needs.length c3)) ∧ Hid (Fr No w wq))
  case first =>
    have k2 := HX.out.drew.cell 2
    have k4 := HX.out.drew.cell 4
    go_region_with (first
      | (go_at_call 37
         refine (cloneS_c _ _ code (HC0.out.keep (FW.out.drew)) HCL.out).mono ?_
         rintro e w2 ⟨v2, rfl, o2, f2, g2⟩
         obtain ⟨A2, c2, rfl, _, _⟩ := o2.slice
         have HO2 := hid o2
         have HG2 := hid g2
         have F2 := hid (show Fr No W w2 from Fr.fresh_no ((Fr.refl No W).drew) f2)
         have HX2 := hid (HX.out.keep F2.out (not_no _))
         have HY2 := hid (HY.out.keep F2.out (not_no _))
         have q2 := HX2.out.cell 2
         have q4 := HX2.out.cell 4
         clear o2 f2 g2)
      | (go_at_call 38
         refine (cloneN_c _ _ needs (HN0.out.keep (FW.out.fresh_no F2.out)) HNL.out).mono ?_
         rintro e w3 ⟨v3, rfl, o3, f3, g3⟩
         obtain ⟨A3, c3, rfl, _, _⟩ := o3.slice
         have HO3 := hid o3
         have HG3 := hid g3
         have F3 := hid (F2.out.fresh_no f3)
         have HO2 := hid (Own.keep HO2.out f3 (fun x _ => not_no x))
         have HX3 := hid (HX.out.keep F3.out (not_no _))
         have HY3 := hid (HY.out.keep F3.out (not_no _))
         have y0 := HX3.out.cell 0
         have y1 := HX3.out.cell 1
         have y2 := HX3.out.cell 2
         have y3 := HX3.out.cell 3
         have y4 := HX3.out.cell 4
         have yf := HX3.out.frozen
         clear o3 f3 g3))
    all_goals
      have HX4 := hid ((HX3.out.set_ 2 (.slice A2 code.length c2)).set_ 4 (.slice A3 needs.length c3))
      have HY4 := hid ((HY3.out.far (p := ⟨w.heap.size, 2, none⟩) (by simp) (.slice A2 code.length c2)).far (p := ⟨w.heap.size, 4, none⟩) (by simp) (.slice A3 needs.length c3))
      have hws : w.heap.size + 2 ≤ W.heap.size := by have := HY.out.lt; omega
      have hd : W.drew.heap.size = W.heap.size := rfl
      have HN2 := hid (show NewV (Sep w w3 (.slice none 0 0)) (.slice A2 code.length c2) from fun x hx => ⟨by have := HG2.out x hx; omega, Of_none, HO2.out.lt x hx⟩)
      have HN3 := hid (show NewV (Sep w w3 (.slice none 0 0)) (.slice A3 needs.length c3) from fun x hx => ⟨by have h1 := HG3.out x hx; have h2 := F2.out.size; omega, Of_none, HO3.out.lt x hx⟩)
      have F4 := hid (show Fr (fun x => x = w.heap.size) w3 ((w3.setCell ⟨w.heap.size, 2, none⟩ (.slice A2 code.length c2)).setCell ⟨w.heap.size, 4, none⟩ (.slice A3 needs.length c3)) from by
        iterate 2 refine Fr.setCell (S := fun x => x = w.heap.size) ?_ (fun _ => rfl) _
        exact Fr.refl _ _)
      clear y0 y1 y2 y3 y4 yf k2 k4 q2 q4
      go_wp2_with fail
      go_meet
      exact ⟨rfl, A2, A3, c2, c3, HX4, HY4, HO2.out.keep F4.out (fun x hx e => by have := (HN2.out x hx).1; omega), HO3.out.keep F4.out (fun x hx e => by have := (HN3.out x hx).1; omega), HN2.out.mono (Sep.grow F4.out.size), HN3.out.mono (Sep.grow F4.out.size), (FW.out.fresh_no F3.out).fresh F4.out (fun x e => by omega)⟩
  case rest =>
    obtain ⟨rfl, A2, A3, c2, c3, HX2, HY2, HO2, HO3, HN2, HN3, HF2⟩ := hcut
    have HXR := hid (HX0.out.keep HF2.out)
    have y3 := HX2.out.cell 3
    have yf := HX2.out.frozen
    have HC3 := hid (show Cp w (wc.setCell ⟨w.heap.size, 3, none⟩ (.slice none 0 0)) fn regs code needs (.slice A2 code.length c2) (.slice A3 needs.length c3) (.slice none 0 0) [] from by
      have hfs : Fr (fun x => x = w.heap.size) wc (wc.setCell ⟨w.heap.size, 3, none⟩ (.slice none 0 0)) := Fr.setCell (S := fun x => x = w.heap.size) (Fr.refl _ wc) (p := ⟨w.heap.size, 3, none⟩) (fun _ => rfl) _
      exact ⟨HX2.out.set_ 3 _, HY2.out.keep hfs (by omega), HO2.out.keep hfs (fun x hx e => by have := (HN2.out x hx).1; omega), HO3.out.keep hfs (fun x hx e => by have := (HN3.out x hx).1; omega), Own.nil _ _ _, by simp, HN2.out.mono (Sep.grow hfs.size), HN3.out.mono (Sep.grow hfs.size), fun x hx => absurd hx Of_none, HF2.out.fresh hfs (fun x e => by omega)⟩)
    have HXR2 := hid (show RdX (wc.setCell ⟨w.heap.size, 3, none⟩ (.slice none 0 0)) (.slice Ax exits.length cx) exits from by
      have h0 := HX0.out.keep HC3.out.fr
      exact h0)
    clear HX HY HX2 HY2 HO2 HO3 HN2 HN3 HXR
    go_wp2_with fail
    generalize wc.setCell ⟨w.heap.size, 3, none⟩ (.slice none 0 0) = w3 at HC3 HXR2 ⊢
    have HF3 := hid HC3.out.fr
    clear y3 yf HF2
    obtain ⟨es1, hes1, hr1, hall1⟩ := HX0.out
    have HES := hid hes1
    have HR1 := hid hr1
    have HALL := hid hall1
    have hel : es1.length = exits.length := by rw [← hes1, List.length_map]
    have HEL := hid hel
    clear hes1 hr1 hall1 hel HXR2
    go_loopg [20] exits.length (fun q v20 w' => ∃ (j : Nat) (es : List ExM) (vx : Value), v20 = .int .i64 j ∧ j ≤ exits.length ∧ q = exits.length - j ∧ Hid (es.map (·.l) = exits.take j) ∧ Hid (Cp w w' fn regs code needs (.slice A2 code.length c2) (.slice A3 needs.length c3) vx es))
    case atStart => exact ⟨0, [], _, rfl, Nat.zero_le _, rfl, rfl, HC3⟩
    case round =>
      clear HC3
      obtain ⟨j, es, vx, rfl, hj, hq, HTK, HCP⟩ := hrel
      have HQ := hid hq
      clear hq
      have hjl : exits.length * 24 ≤ 140737488355328 := HXL.out
      by_cases d1 : j < exits.length
      · have d2 : (j : Int) < exits.length := by omega
        have hj1 : j < es1.length := by rw [HEL.out]; exact d1
        have he1 : es1[j]? = some es1[j] := List.getElem?_eq_getElem hj1
        have hal := HALL.out _ (List.getElem_mem hj1)
        generalize es1[j] = e1 at he1 hal
        have HE1 := hid he1
        have HXJ := hid (show exits[j]? = some e1.l by rw [← HES.out, List.getElem?_map, HE1.out]; rfl)
        have HLB := hid (hal.1.keep HCP.out.fr)
        have HLL := hid hal.2
        obtain ⟨bx, ox, cx', u, hAx, _, hu, hcell⟩ := (HR1.out.keep HCP.out.fr (fun k _ => not_no k)).at_ d1
        injection hAx with hAx _ hcx
        subst hAx
        have hue : e1.v = u := by
          rw [List.getElem?_map, HE1.out] at hu
          exact Option.some.inj hu
        subst hue
        clear hu he1 hal hcx
        obtain ⟨ms, hms, hrm, hok⟩ := HLB.out
        have hml : e1.l.length = ms.length := by rw [← hms, List.length_map]
        rw [hml] at hrm
        have HMS := hid hms
        have HML := hid (show ms.length * 64 ≤ 140737488355328 by rw [← hml]; exact HLL.out)
        have hmll := HML.out
        have HOK := hid hok
        have HCB := hid (fun (w' : World) (hf : Fr No wr w') => cloneB_c w' e1.v ms (hrm.keep hf (fun k _ => not_no k)) HML.out (fun m hm => (hok m hm).keep hf))
        obtain ⟨A5, c5, hv5, hc5, _⟩ := hrm
        clear hms hok hml HLB
        rw [hv5] at hcell HCB
        have HV5 := hid hv5
        clear hv5
        go_wp2_with fail
        refine (HCB.out _ (Fr.refl No _)).mono ?_
        rintro e w5 ⟨v5, rfl, o5, f5, n5⟩
        have HO5 := hid o5
        have HF5 := hid f5
        have HN5 := hid n5
        clear o5 f5 n5 hcell HCB
        rcases HO5.out.2 with ⟨hv0, h0⟩ | ⟨gb, cap, cur, hv0, _, hcap, _⟩
        · subst hv0
          have hms0 : ms = [] := List.eq_nil_of_length_eq_zero h0
          subst hms0
          have HC8 := hid (HCP.out.keep HF5.out)
          have HL8 : RdLB (Sep w w5 vx) w5 (.slice none 0 0) ([].map BackM.v) := ⟨⟨[], rfl, Rd.nil 4 w5, by simp⟩, fun x hx => absurd hx Of_none⟩
          have HEN := hid (show es.length = j by have h1 := congrArg List.length HTK.out; simp at h1; omega)
          have y3 := HC8.out.box.cell 3
          have yf := HC8.out.box.frozen
          go_wp2_with fail
          refine wp_loop_rounds 1 ?_
          unfold Code.rounds
          obtain ⟨Ae, ce, hvx, hce, _⟩ := HC8.out.out.slice
          subst hvx
          have HA := hid ((Fr.refl No w5).alloc (.cells #[(.slice none 0 0)] 79))
          have HR8 := hid (Rd.oneV w5 79 (.slice none 0 0))
          have HC8a := hid (HC8.out.keep HA.out)
          have HL8a := hid ((HL8.keep HA.out (fun x _ => not_no x)).older (Sep.grow HA.out.size))
          have hen : (es.length + 1) * 24 ≤ 140737488355328 := by have h1 := HEN.out; have h2 := HXL.out; omega
          clear HL8
          go_wp2_with (at_builtin; refine wpl_app _ rfl (.tmp 53) (.tmp 55) _ rfl 79 (.slice none 0 0) 1 24 Try.underlying23 infoL (by rfl) _ es.length (es.map (fun x : ExM => x.v)) rfl HC8a.out.out _ 1 [(.slice none 0 0)] rfl HR8.out (by intro u hu; rw [List.mem_singleton.1 hu]; rfl) (by simp only [maxLen]; omega) (by omega) ?_; intro v9 w9 o9 f9 g9; obtain ⟨A9, c9, rfl, _, _⟩ := o9.slice; have HX9 := hid (HC8a.out.box.keep f9 (fun e => by have h1 : w.heap.size + 2 ≤ w.heap.size := HC8.out.nout _ e; omega)); have HO9 := hid o9; have HF9 := hid f9; have HG9 := hid g9; clear o9 f9 g9 y3 yf; have y3 := HX9.out.cell 3; have yf := HX9.out.frozen)
          have HC9 := hid (HC8a.out.more (e := ⟨([] : List BackM).map (·.v), (.slice none 0 0)⟩) HL8a.out (by rw [List.length_map]; exact HML.out) HO9.out HF9.out HG9.out)
          have HTK9 := hid (show (es ++ [ExM.mk (([] : List BackM).map (·.v)) (.slice none 0 0)]).map (·.l) = exits.take (j + 1) by rw [List.map_append, HTK.out, List.take_add_one, HXJ.out, ← HMS.out]; rfl)
          go_roundg (exits.length - (j + 1))
          case measure => have := HQ.out; omega
          case rel => exact ⟨j + 1, _, _, by go_num, by omega, rfl, HTK9, HC9⟩
        · subst hv0
          have HGB := hid (show wr.heap.size ≤ gb ∧ gb < w5.heap.size from ⟨HN5.out gb (Of_some.2 rfl), HO5.out.lt gb (Of_some.2 rfl)⟩)
          have HB0 := hid (show Bk w5 w5 gb cap ms [] 0 from ⟨HO5.out, rfl, rfl, by simp⟩)
          clear HO5 HN5
          go_wp2_with fail
          go_loopg [28] ms.length (fun q v28 w' => ∃ (k : Nat) (nw : List BackM), v28 = .int .i64 k ∧ k ≤ ms.length ∧ q = ms.length - k ∧ Hid (Fr No wr w') ∧ Hid (w5.heap.size ≤ w'.heap.size) ∧ Hid (Bk w5 w' gb cap ms nw k))
          case atStart => exact ⟨0, [], rfl, Nat.zero_le _, rfl, HF5.out, Nat.le_refl _, HB0⟩
          case round =>
            clear HB0
            obtain ⟨k, nw, rfl, hk, hq, HF, HSZ, HB⟩ := hrel
            have HQ2 := hid hq
            clear hq
            by_cases d3 : k < ms.length
            · have d4 : (k : Int) < ms.length := by omega
              have hm : ms[k]? = some ms[k] := List.getElem?_eq_getElem d3
              have hmo := (HOK.out _ (List.getElem_mem d3)).keep HF.out
              generalize ms[k] = m at hm hmo
              have HM := hid hm
              have HMO := hid hmo
              obtain ⟨b0, b1, b2, b3⟩ := HB.out.next hm
              obtain ⟨Av, cv2, hvv, _⟩ := hmo.1
              obtain ⟨As, cs2, hsv, _⟩ := hmo.2.1
              obtain ⟨vm, vv, sv⟩ := m
              dsimp only at b0 b1 b2 b3
              replace hvv : vv = .slice Av vm.vars.length cv2 := hvv
              replace hsv : sv = .slice As vm.stack.length cs2 := hsv
              subst hvv hsv
              clear hm hmo
              have HV1 := hid (fun (w' : World) (hf : Fr No wr w') => cloneI_c w' (.slice Av vm.vars.length cv2) vm.vars (HMO.out.1.keep hf) HMO.out.2.2.1)
              have HV2 := hid (fun (w' : World) (hf : Fr No wr w') => cloneI_c w' (.slice As vm.stack.length cs2) vm.stack (HMO.out.2.1.keep hf) HMO.out.2.2.2)
              have HKR := hid (show ∀ w', Fr No wr w' → w'.cell? ⟨gb, k * 4 + 2, none⟩ = some (.slice Av vm.vars.length cv2) ∧ w'.cell? ⟨gb, k * 4 + 3, none⟩ = some (.slice As vm.stack.length cs2) from fun w' hf => by
                obtain ⟨_, _, q2, q3⟩ := (HB.out.keep hf).next HM.out
                exact ⟨q2, q3⟩)
              clear b0 b1 b2 b3
              go_upto_region 11 with fail
              obtain ⟨b2, b3⟩ := HKR.out _ ((Fr.refl No wr).drew)
              go_region_with (first
                | (go_at_call 40
                   with_reducible refine (HV1.out _ ((Fr.refl No wr).drew)).mono ?_
                   rintro e w6 ⟨v6, rfl, o6, f6, g6⟩
                   obtain ⟨A6, c6, rfl, _, _⟩ := o6.slice
                   have HO6 := hid o6
                   have HG6 := hid g6
                   have F6 := hid (show Fr No wr w6 from Fr.fresh_no ((Fr.refl No wr).drew) f6)
                   obtain ⟨q2, q3⟩ := HKR.out _ F6.out
                   clear o6 f6 g6)
                | (go_at_call 40
                   with_reducible refine (HV2.out _ F6.out).mono ?_
                   rintro e w7 ⟨v7, rfl, o7, f7, g7⟩
                   obtain ⟨A7, c7, rfl, _, _⟩ := o7.slice
                   have HO7 := hid o7
                   have HG7 := hid g7
                   have F7 := hid (F6.out.fresh_no f7)
                   have HO6 := hid (Own.keep HO6.out f7 (fun x _ => not_no x))
                   obtain ⟨r2, r3⟩ := HKR.out _ F7.out
                   have rf := (HB.out.keep F7.out).row.frozen
                   clear o7 f7 g7))
              all_goals
                have hd : wr.drew.heap.size = wr.heap.size := rfl
                have HB7 := hid ((HB.out.keep F7.out).more HM.out HO6.out.rd HO7.out.rd HMO.out.2.2.1 HMO.out.2.2.2 (fun x hx => ⟨by have h1 := HG6.out x hx; have h2 := HSZ.out; omega, HO6.out.lt x hx⟩) (fun x hx => ⟨by have h1 := HG7.out x hx; have h2 := HSZ.out; have h3 := F6.out.size; omega, HO7.out.lt x hx⟩) HGB.out.2)
                have hf7 : Fr (fun x => x = gb) w7 ((w7.setCell ⟨gb, k * 4 + 2, none⟩ (.slice A6 vm.vars.length c6)).setCell ⟨gb, k * 4 + 3, none⟩ (.slice A7 vm.stack.length c7)) := by
                  iterate 2 refine Fr.setCell (S := fun x => x = gb) ?_ (fun _ => rfl) _
                  exact Fr.refl _ _
                have HF7 := hid ((HF.out.fresh_no F7.out).fresh hf7 (fun x e => by rw [e]; exact HGB.out.1))
                have HSZ7 := hid (Nat.le_trans HSZ.out (Nat.le_trans F7.out.size hf7.size))
                clear hf7 b2 b3 q2 q3 r2 r3 rf hd
                go_wp2_with fail
                go_roundg (ms.length - (k + 1))
                case measure => have := HQ2.out; omega
                case rel => exact ⟨k + 1, _, by go_num, by omega, rfl, HF7, HSZ7, HB7⟩
            · have d4 : ¬ (k : Int) < ms.length := by omega
              have hke : k = ms.length := by omega
              have HC8 := hid (HCP.out.keep HF.out)
              have hs5 : w.heap.size + 2 ≤ w5.heap.size := by have h1 := HCP.out.res.lt; have h2 := HF5.out.size; omega
              have HL8 := hid (HB.out.done hke (P := Sep w wr vx) (fun x hx => ⟨Nat.le_trans hs5 hx.1, fun ho => by have h1 := HCP.out.out.lt x ho; have h2 := HF5.out.size; have h3 := hx.1; omega, hx.2⟩) ⟨by have h1 := HCP.out.res.lt; have h2 := HGB.out.1; omega, fun ho => by have h1 := HCP.out.out.lt gb ho; have h2 := HGB.out.1; omega, by have h1 := HGB.out.2; have h2 := HSZ.out; omega⟩)
              have HEN := hid (show es.length = j by have h1 := congrArg List.length HTK.out; simp at h1; omega)
              clear hs5 HB HSZ HGB hke
              have y3 := HC8.out.box.cell 3
              have yf := HC8.out.box.frozen
              obtain ⟨Ae, ce, hvx, hce, _⟩ := HC8.out.out.slice
              subst hvx
              have HA := hid ((Fr.refl No wr).alloc (.cells #[(.slice (some ⟨gb, 0, none⟩) ms.length cap)] 79))
              have HR8 := hid (Rd.oneV wr 79 (.slice (some ⟨gb, 0, none⟩) ms.length cap))
              have HC8a := hid (HC8.out.keep HA.out)
              have HL8a := hid ((HL8.keep HA.out (fun x _ => not_no x)).older (Sep.grow HA.out.size))
              have hen : (es.length + 1) * 24 ≤ 140737488355328 := by have h1 := HEN.out; have h2 := HXL.out; omega
              clear HL8
              go_wp2_with (at_builtin; refine wpl_app _ rfl (.tmp 53) (.tmp 55) _ rfl 79 (.slice none 0 0) 1 24 Try.underlying23 infoL (by rfl) _ es.length (es.map (fun x : ExM => x.v)) rfl HC8a.out.out _ 1 [(.slice (some ⟨gb, 0, none⟩) ms.length cap)] rfl HR8.out (by intro u hu; rw [List.mem_singleton.1 hu]; rfl) (by simp only [maxLen]; omega) (by omega) ?_; intro v9 w9 o9 f9 g9; obtain ⟨A9, c9, rfl, _, _⟩ := o9.slice; have HX9 := hid (HC8a.out.box.keep f9 (fun e => by have h1 : w.heap.size + 2 ≤ w.heap.size := HC8.out.nout _ e; omega)); have HO9 := hid o9; have HF9 := hid f9; have HG9 := hid g9; clear o9 f9 g9 y3 yf; have y3 := HX9.out.cell 3; have yf := HX9.out.frozen)
              have HC9 := hid (HC8a.out.more (e := ⟨ms.map (·.v), (.slice (some ⟨gb, 0, none⟩) ms.length cap)⟩) HL8a.out (by rw [List.length_map]; exact HML.out) HO9.out HF9.out HG9.out)
              have HTK9 := hid (show (es ++ [ExM.mk (ms.map (·.v)) (.slice (some ⟨gb, 0, none⟩) ms.length cap)]).map (·.l) = exits.take (j + 1) by rw [List.map_append, HTK.out, List.take_add_one, HXJ.out, ← HMS.out]; rfl)
              go_roundg (exits.length - (j + 1))
              case measure => have := HQ.out; omega
              case rel => exact ⟨j + 1, _, _, by go_num, by omega, rfl, HTK9, HC9⟩
      · have d2 : ¬ (j : Int) < exits.length := by omega
        have hje : j = exits.length := by omega
        have HTF := hid (show es.map (·.l) = exits by have h1 := HTK.out; rw [hje, List.take_length] at h1; exact h1)
        obtain ⟨Ae, ce, hvx, hce, _⟩ := HCP.out.out.slice
        subst hvx
        clear hje
        have z0 := HCP.out.box.cell 0
        have z1 := HCP.out.box.cell 1
        have z2 := HCP.out.box.cell 2
        have z3 := HCP.out.box.cell 3
        have z4 := HCP.out.box.cell 4
        have r0 := HCP.out.res.cell 0
        have r1 := HCP.out.res.cell 1
        have r2 := HCP.out.res.cell 2
        have r3 := HCP.out.res.cell 3
        have r4 := HCP.out.res.cell 4
        have rf := HCP.out.res.frozen
        go_wp2_with fail
        refine ⟨rfl, ?_⟩
        refine ⟨.agg #[.int .i64 fn, .int .i64 regs, .slice A2 code.length c2, .slice Ae es.length ce, .slice A3 needs.length c3], ?_, ?_⟩
        · have hres : Try.f28.results = #[.cell 2 26] := rfl
          simp [results, hres, asAddr]
          try go_simp
          try rfl
        · exact ⟨_, _, _, rfl, HCP.out.done (by with_reducible repeat (first | exact Fr.refl _ _ | refine Fr.setCell (S := fun k => k = w.heap.size + 1) ?_ (fun _ => rfl) _ | refine Fr.drew ?_)) HTF.out⟩
end Go.Proofs.Ytfmoagpfgkokcaa
