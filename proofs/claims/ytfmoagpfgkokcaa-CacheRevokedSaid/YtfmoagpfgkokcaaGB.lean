import Derived.Test.YtfmoagpfgkokcaaGA
/-! The cache: a struct with two maps; its keys; New, below, Len. -/
namespace Go.Proofs.Ytfmoagpfgkokcaa
open Go.RowKit
set_option linter.unusedVariables false
set_option linter.unusedSimpArgs false

abbrev K2 := Int × Int
def enc2 (k : K2) : Value := .agg #[.int .i64 k.1, .int .i64 k.2]
set_option maxRecDepth 100000 in
theorem part_key (a b : Value) (w : World) : (part 3 #[a, b] 0).run Try.prog w = .ok a w ∧ (part 3 #[a, b] 1).run Try.prog w = .ok b w := ⟨by kernel_rfl, by kernel_rfl⟩
set_option maxRecDepth 100000 in
theorem check_key (w : World) (em : Bool) (k : K2) : (Instr.checkKey em 10000 72 (enc2 k)).run Try.prog w = .ok () w := by
  obtain ⟨a, b⟩ := k
  unfold enc2
  kernel_rfl
set_option maxRecDepth 100000 in
theorem eq_key (w : World) (a b : K2) : ∃ r, (Op.equal 72 (enc2 a) (enc2 b)).run Try.prog w = .ok r w ∧ (r = true ↔ a = b) := by
  obtain ⟨a0, a1⟩ := a
  obtain ⟨b0, b1⟩ := b
  have hu : Try.prog.underlying 72 = some (.struct (Try.prog.fieldsOf 72)) := by kernel_rfl
  have hp : Try.prog.stoodInHeld 72 = false := by kernel_rfl
  have hi : Try.prog.underlying 3 = some (.int .i64) := Try.underlying3
  have e1 : (Op.equal 72 (enc2 (a0, a1)) (enc2 (b0, b1))).run Try.prog w = (Op.eqFields 9999 #[.int .i64 a0, .int .i64 a1] #[.int .i64 b0, .int .i64 b1] (Try.prog.fieldsOf 72).toList).run Try.prog w := run_equalIn_struct w 9999 72 _ _ hu hp
  rw [e1]
  have hf : ∃ f0 f1 : Field, (Try.prog.fieldsOf 72).toList = [f0, f1] ∧ (f0.name ≠ "_" ∧ f0.type = 3 ∧ f0.offset = 0) ∧ (f1.name ≠ "_" ∧ f1.type = 3 ∧ f1.offset = 1) := by
    unfold Program.fieldsOf
    rw [Try.underlying72]
    exact ⟨_, _, rfl, ⟨by decide, rfl, rfl⟩, ⟨by decide, rfl, rfl⟩⟩
  obtain ⟨f0, f1, hl, ⟨n0, t0, o0⟩, ⟨n1, t1, o1⟩⟩ := hf
  rw [hl]
  have hq := fun (a b : Int) => run_equalIn_int (P := Try.prog) w 9998 3 .i64 .i64 a b hi
  have p0 := fun a b => (part_key a b w).1
  have p1 := fun a b => (part_key a b w).2
  refine ⟨decide (a0 = b0) && decide (a1 = b1), ?_, by simp⟩
  simp only [Op.eqFields, n0, n1, t0, t1, o0, o1, Sem.run_bind, ne_eq, not_false_eq_true, if_true, p0, p1, Result.andThen, hq]
  by_cases e0 : a0 = b0 <;> by_cases e1 : a1 = b1 <;> simp [e0, e1, Result.andThen, p0, p1, hq]
theorem enc2_inj {a b : K2} (h : enc2 a = enc2 b) : a = b := by
  obtain ⟨a0, a1⟩ := a
  obtain ⟨b0, b1⟩ := b
  simpa [enc2] using h
theorem keyOK2 : KeyOK Try.prog 72 enc2 := keyOK_struct Try.underlying72 enc2_inj check_key eq_key (fun k => by obtain ⟨a, b⟩ := k; simp [enc2, Instr.sameBits])
theorem keyOKi : KeyOK Try.prog 3 (Value.int .i64) := keyOK_int Try.underlying3
/-- a step -/
structure SpecV where
  op : Int
  a : Int
  b : Int
  c : Int
  lead : Int
  own : Int
  exit : Int
def SpecV.cells (s : SpecV) : List Value := [.int .u8 s.op, .int .i64 s.a, .int .i64 s.b, .int .i64 s.c, .int .i64 s.lead, .int .i64 s.own, .int .i64 s.exit]
theorem spec_len (s : SpecV) : s.cells.length = 7 := rfl
def scells (l : List SpecV) : List Value := rows SpecV.cells l
theorem scells_one (l : List SpecV) : ∀ u ∈ scells l, u.oneCell' = true := rows_one_cell (by intro x u hu; simp [SpecV.cells] at hu; rcases hu with rfl | rfl | rfl | rfl | rfl | rfl | rfl <;> rfl) l
def RdS (w : World) (v : Value) (l : List SpecV) : Prop := Rd 7 w v l.length (scells l)
def intsV (zs : List Int) : List Value := zs.map (Value.int .i64)
def RdV (w : World) (v : Value) (zs : List Int) : Prop := Rd 1 w v zs.length (intsV zs)
theorem intsV_len (zs : List Int) : (intsV zs).length = zs.length := by simp [intsV]
theorem intsV_one (zs : List Int) : ∀ u ∈ intsV zs, u.oneCell' = true := by
  intro u hu
  obtain ⟨z, _, rfl⟩ := List.mem_map.1 hu
  rfl
/-- a frame that is made when code is left -/
structure BackV where
  fn : Int
  at_ : Int
  vars : List Int
  stack : List Int
/-- the same, as it lies there -/
structure BackM where
  v : BackV
  vv : Value
  sv : Value
def BackM.cells (m : BackM) : List Value := [.int .i64 m.v.fn, .int .i64 m.v.at_, m.vv, m.sv]
theorem back_len (m : BackM) : m.cells.length = 4 := rfl
def BackM.ok (w : World) (m : BackM) : Prop := RdV w m.vv m.v.vars ∧ RdV w m.sv m.v.stack ∧ m.v.vars.length * 8 ≤ 140737488355328 ∧ m.v.stack.length * 8 ≤ 140737488355328
/-- one exit's frames -/
def RdL (w : World) (v : Value) (l : List BackV) : Prop := ∃ ms : List BackM, ms.map (·.v) = l ∧ Rd 4 w v l.length (rows BackM.cells ms) ∧ ∀ m ∈ ms, m.ok w
/-- all exits -/
structure ExM where
  l : List BackV
  v : Value
def RdX (w : World) (v : Value) (xs : List (List BackV)) : Prop := ∃ es : List ExM, es.map (·.l) = xs ∧ Rd 1 w v xs.length (es.map (·.v)) ∧ ∀ e ∈ es, RdL w e.v e.l ∧ e.l.length * 64 ≤ 140737488355328
section
variable {w w' : World} {v : Value} {S : Nat → Prop}
theorem RdS.keep {l : List SpecV} (h : RdS w v l) (hf : Fr No w w') : RdS w' v l := Rd.keep h hf (fun k _ => not_no k)
theorem RdV.keep {l : List Int} (h : RdV w v l) (hf : Fr No w w') : RdV w' v l := Rd.keep h hf (fun k _ => not_no k)
theorem BackM.ok.keep {m : BackM} (h : m.ok w) (hf : Fr No w w') : m.ok w' := ⟨h.1.keep hf, h.2.1.keep hf, h.2.2⟩
theorem RdL.keep {l : List BackV} (h : RdL w v l) (hf : Fr No w w') : RdL w' v l := by
  obtain ⟨ms, h1, h2, h3⟩ := h
  exact ⟨ms, h1, Rd.keep h2 hf (fun k _ => not_no k), fun m hm => (h3 m hm).keep hf⟩
theorem RdX.keep {xs : List (List BackV)} (h : RdX w v xs) (hf : Fr No w w') : RdX w' v xs := by
  obtain ⟨es, h1, h2, h3⟩ := h
  exact ⟨es, h1, Rd.keep h2 hf (fun k _ => not_no k), fun e he => ⟨(h3 e he).1.keep hf, (h3 e he).2⟩⟩
def CellsFree (w : World) (S : Nat → Prop) : Prop := ∀ x cs t fr, w.heap[x]? = some (.cells cs t fr) → ¬ S x
theorem RdV.keepC {l : List Int} (h : RdV w v l) (hf : Fr S w w') (hS : CellsFree w S) : RdV w' v l := Rd.keepC h (by decide) hf hS
theorem RdL.keepC {l : List BackV} (h : RdL w v l) (hf : Fr S w w') (hS : CellsFree w S) : RdL w' v l := by
  obtain ⟨ms, h1, h2, h3⟩ := h
  exact ⟨ms, h1, Rd.keepC h2 (by decide) hf hS, fun m hm => ⟨(h3 m hm).1.keepC hf hS, (h3 m hm).2.1.keepC hf hS, (h3 m hm).2.2⟩⟩
theorem RdX.keepC {xs : List (List BackV)} (h : RdX w v xs) (hf : Fr S w w') (hS : CellsFree w S) : RdX w' v xs := by
  obtain ⟨es, h1, h2, h3⟩ := h
  exact ⟨es, h1, Rd.keepC h2 (by decide) hf hS, fun e he => ⟨(h3 e he).1.keepC hf hS, (h3 e he).2⟩⟩
theorem RdS.nil (w : World) : RdS w (.slice none 0 0) [] := Rd.nil 7 w
theorem RdX.nil (w : World) : RdX w (.slice none 0 0) [] := ⟨[], rfl, Rd.nil 1 w, by simp⟩
end
/-- an entry -/
structure Ev where
  ver : Int
  ep : Int
  till : Int
  fn : Int
  regs : Int
  code : List SpecV
  cv : Value
  exits : List (List BackV)
  xv : Value
  needs : List (Int × Int)
  nv : Value
def Ev.cells (e : Ev) : Array Value := #[.int .i64 e.ver, .int .i64 e.ep, .int .i64 e.till, .int .i64 e.fn, .int .i64 e.regs, e.cv, e.xv, e.nv]
def Ev.fast (e : Ev) : Value := .agg #[.int .i64 e.fn, .int .i64 e.regs, e.cv, e.xv, e.nv]
def Ev.val (e : Ev) : Value := .agg e.cells
structure Ev.ok (w : World) (e : Ev) : Prop where
  nd : RdN w e.nv e.needs
  nl : e.needs.length * 16 ≤ 140737488355328
  cd : RdS w e.cv e.code
  cl : e.code.length * 56 ≤ 140737488355328
  ex : RdX w e.xv e.exits
  xl : e.exits.length * 24 ≤ 140737488355328
theorem Ev.ok.keep {w w' : World} {e : Ev} (h : e.ok w) (hf : Fr No w w') : e.ok w' := ⟨h.nd.keep hf, h.nl, h.cd.keep hf, h.cl, h.ex.keep hf, h.xl⟩
theorem Ev.ok.keep_ {w w' : World} {S : Nat → Prop} {e : Ev} (h : e.ok w) (hf : Fr S w w') (hS : CellsFree w S) : e.ok w' := ⟨Rd.keepC h.nd (by decide) hf hS, h.nl, Rd.keepC h.cd (by decide) hf hS, h.cl, h.ex.keepC hf hS, h.xl⟩
theorem Ev.slice {w : World} {e : Ev} (h : e.ok w) : ∃ A c Ac nc cc Ax nx cx, e.nv = .slice A e.needs.length c ∧ e.cv = .slice Ac nc cc ∧ e.xv = .slice Ax nx cx := by
  obtain ⟨A, c, hv, _⟩ := h.nd
  obtain ⟨Ac, cc, hv2, _⟩ := h.cd
  obtain ⟨es, _, ⟨Ax, cx, hv3, _⟩, _⟩ := h.ex
  exact ⟨A, c, Ac, _, cc, Ax, _, cx, hv, hv2, hv3⟩
theorem cells_not_map {κ : Type} {enc : κ → Value} {w : World} {b : Nat} {ms : List (κ × Value)} (hm : MapAt enc w b ms) : CellsFree w (fun x => x = b) := fun x cs t fr hx e => by
  obtain ⟨es, clock, hb, _⟩ := hm
  subst e
  rw [hx] at hb
  cases hb
def valsE (ms : List (K2 × Ev)) : List (K2 × Value) := ms.map (fun p => (p.1, p.2.val))
def valsF (fs : List (Int × Int)) : List (Int × Value) := fs.map (fun p => (p.1, .int .i64 p.2))
theorem Blk.not_mapK {κ : Type} {enc : κ → Value} {w : World} {g b : Nat} {t : TypeId} {cs : Array Value} {ms : List (κ × Value)} (h : Blk w g t cs) (hm : MapAt enc w b ms) : g ≠ b := by
  obtain ⟨es, clock, hb, _⟩ := hm
  rintro rfl
  unfold Blk at h
  rw [hb] at h
  cases h
theorem MapAt.lt {κ : Type} {enc : κ → Value} {w : World} {b : Nat} {ms : List (κ × Value)} (h : MapAt enc w b ms) : b < w.heap.size := by
  obtain ⟨es, clock, hb, _⟩ := h
  exact lt_of_some hb
/-- a cache in block g, its entries' map in block b, its floors' in block fb -/
structure IsC (w : World) (g b fb : Nat) (ms : List (K2 × Ev)) (fs : List (Int × Int)) : Prop where
  blk : Blk w g 67 #[.map (some b), .map (some fb)]
  map : MapAt enc2 w b (valsE ms)
  flo : MapAt (Value.int .i64) w fb (valsF fs)
  two : b ≠ fb
  rows : ∀ p ∈ ms, p.2.ok w
theorem IsC.keep {w w' : World} {g b fb : Nat} {ms : List (K2 × Ev)} {fs : List (Int × Int)} (h : IsC w g b fb ms fs) (hf : Fr No w w') : IsC w' g b fb ms fs :=
  ⟨h.blk.keep hf (not_no _), h.map.keep hf (not_no _), h.flo.keep hf (not_no _), h.two, fun p hp => (h.rows p hp).keep hf⟩
/-- caches that are none: nil, or a struct without maps -/
def NoC (w : World) (v : Value) : Prop := v = .pointer none ∨ ∃ g, v = .pointer (some ⟨g, 0, none⟩) ∧ Blk w g 67 #[.map none, .map none]
theorem NoC.keep {w w' : World} {v : Value} (h : NoC w v) (hf : Fr No w w') : NoC w' v := by
  rcases h with rfl | ⟨g, rfl, hb⟩
  · exact .inl rfl
  · exact .inr ⟨g, rfl, hb.keep hf (not_no _)⟩
set_option maxRecDepth 100000 in
set_option maxHeartbeats 400000 in
theorem right_none {w : World} {v : Value} (h : NoC w v) : Calls Try.prog 26 #[v] w fun e w' => e = .returned (.bool false) ∧ w' = w := by
  rcases h with rfl | ⟨g, rfl, hb⟩
  · go_enter Try.func26, Try.ntmps26
    go_wp2_with fail
    go_ret
    exact ⟨rfl, rfl⟩
  · obtain ⟨c0, c1, cf⟩ := hb.pair
    clear hb
    have kn := fun (w : World) (r : Option Nat) => Go.run_neq_map_nil (P := Try.prog) w 64 72 28 r Try.underlying64
    go_enter Try.func26, Try.ntmps26
    go_wp2_with fail
    go_ret
    exact ⟨rfl, rfl⟩
set_option maxRecDepth 100000 in
set_option maxHeartbeats 400000 in
theorem right_yes {w : World} {g b : Nat} {f : Value} (hb : Blk w g 67 #[.map (some b), f]) : Calls Try.prog 26 #[.pointer (some ⟨g, 0, none⟩)] w fun e w' => e = .returned (.bool true) ∧ w' = w := by
  obtain ⟨c0, c1, cf⟩ := hb.pair
  clear hb
  have kn := fun (w : World) (r : Option Nat) => Go.run_neq_map_nil (P := Try.prog) w 64 72 28 r Try.underlying64
  go_enter Try.func26, Try.ntmps26
  go_wp2_with fail
  go_ret
  exact ⟨rfl, rfl⟩
set_option maxRecDepth 100000 in
set_option maxHeartbeats 400000 in
theorem new_c (w : World) : Calls Try.prog 10 #[] w fun e w' => ∃ g b fb, e = .returned (.pointer (some ⟨g, 0, none⟩)) ∧ IsC w' g b fb [] [] ∧ Fr No w w' ∧ w.heap.size ≤ g ∧ w.heap.size ≤ b ∧ w.heap.size ≤ fb := by
  have hmm := @run_makeMap Try.prog
  go_enter Try.func10, Try.ntmps10
  go_wp2_with fail
  go_ret
  have s1 : (w.alloc (.map #[] 0)).heap.size = w.heap.size + 1 := by simp
  have M2 : MapAt (κ := Int) (Value.int .i64) ((w.alloc (.map #[] 0)).alloc (.map #[] 0)) (w.heap.size + 1) [] := by
    have := MapAt.new (κ := Int) (enc := Value.int .i64) (w.alloc (.map #[] 0))
    rwa [s1] at this
  have M1 : MapAt (κ := K2) enc2 ((w.alloc (.map #[] 0)).alloc (.map #[] 0)) w.heap.size [] := (MapAt.new w).keep ((Fr.refl No _).alloc _) (not_no _)
  have s2 : ((w.alloc (.map #[] 0)).alloc (.map #[] 0)).heap.size = w.heap.size + 2 := by simp
  have HB : Blk (((w.alloc (.map #[] 0)).alloc (.map #[] 0)).alloc (.cells #[.map (some w.heap.size), .map (some (w.heap.size + 1))] 67)) (w.heap.size + 2) 67 #[.map (some w.heap.size), .map (some (w.heap.size + 1))] := by
    have h := Blk.new ((w.alloc (.map #[] 0)).alloc (.map #[] 0)) 67 #[.map (some w.heap.size), .map (some (w.heap.size + 1))]
    rwa [s2] at h
  have FN : Fr No ((w.alloc (.map #[] 0)).alloc (.map #[] 0)) (((w.alloc (.map #[] 0)).alloc (.map #[] 0)).alloc (.cells #[.map (some w.heap.size), .map (some (w.heap.size + 1))] 67)) := (Fr.refl No _).alloc _
  exact ⟨w.heap.size + 2, w.heap.size, w.heap.size + 1, rfl, ⟨HB, M1.keep FN (not_no _), M2.keep FN (not_no _), by omega, by simp⟩, (((Fr.refl No w).alloc _).alloc _).alloc _, by omega, by omega, by omega⟩
set_option maxRecDepth 100000 in
set_option maxHeartbeats 400000 in
theorem len_c {w : World} {g b fb : Nat} {ms : List (K2 × Ev)} {fs : List (Int × Int)} (h : IsC w g b fb ms fs) : Calls Try.prog 13 #[.pointer (some ⟨g, 0, none⟩)] w fun e w' => e = .returned (.int .i64 ms.length) ∧ w' = w := by
  obtain ⟨c0, c1, cf⟩ := h.blk.pair
  have hlen := fun ty => run_lenK (P := Try.prog) (T := 64) (K := 72) (E := 28) (ty := ty) Try.underlying64 h.map
  rw [show (valsE ms).length = ms.length by simp [valsE]] at hlen
  have HB := hid h.blk
  clear h
  go_enter Try.func13, Try.ntmps13
  go_wp2_with fail
  refine (right_yes HB.out).mono ?_
  rintro e wx ⟨rfl, rfl⟩
  go_wp2_with fail
  go_ret
  exact ⟨rfl, rfl⟩
end Go.Proofs.Ytfmoagpfgkokcaa
