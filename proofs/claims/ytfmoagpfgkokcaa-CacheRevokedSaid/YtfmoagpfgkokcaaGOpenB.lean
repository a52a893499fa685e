import Derived.Test.YtfmoagpfgkokcaaGOpen
/-! What an op holds, opened. -/
namespace Go.Proofs.Ytfmoagpfgkokcaa
open Go.RowKit Go.ChangeShapes Go.WideShapes
set_option linter.unusedVariables false
set_option linter.unusedSimpArgs false

theorem reach_le {n k : Nat} (h : n * k ≤ reachBytes) : n * k ≤ 140737488355328 := Nat.le_trans h (by decide)
theorem rows_intsV (l : List Int) : rows (fun z : Int => [Value.int .i64 z]) l = intsV l := by
  induction l with
  | nil => rfl
  | cons a l ih => rw [rows_cons, ih]; rfl
theorem rows_one_val {α : Type} (f : α → Value) (l : List α) : rows (fun e => [f e]) l = l.map f := by
  induction l with
  | nil => rfl
  | cons a l ih => rw [rows_cons, ih]; rfl
def Is64 (x : Int) : Prop := -9223372036854775808 ≤ x ∧ x ≤ 9223372036854775807
section
variable {H : Type} {enc : TypeId × Value → H} {P : Program} {w : World} {base : Nat} {held : Bool}
structure IsI (P : Program) (t : TypeId) : Prop where
  u : P.underlying t = some (.int .i64)
  c : P.cellsOf t = 1
  b : P.bytesOf t = 8
theorem ints_ofF {t e : TypeId} {fuel : Nat} {cs : List Value} {x : DataW H × List MemPlace} (ht : P.underlying t = some (.slice e)) (he : IsI P e) (h : DataW.trod enc P w base (fun _ => true) held fuel t cs = some x) (hfit : Fits P t x.1) :
    ∃ (A : Option Addr) (c : Nat) (zs : List Int), cs = [.slice A zs.length c] ∧ RdV w (.slice A zs.length c) zs ∧ zs.length * 8 ≤ 140737488355328 := by
  obtain ⟨A, c, l, rfl, hr, hb, _⟩ := open_rows (fun z : Int => [Value.int .i64 z]) (fun _ => True) 1 (by omega) ht he.c h hfit (fun n r y hl hy _ => by
    obtain ⟨z, rfl, _⟩ := i64_of_trod he.u hy
    exact ⟨z, rfl, trivial⟩)
  rw [rows_intsV] at hr
  rw [he.b] at hb
  exact ⟨A, c, l, rfl, hr, reach_le hb⟩
/-- a frame -/
structure BackT (P : Program) (e : TypeId) (f0 f1 f2 f3 : Field) (ti : TypeId) : Prop where
  u : P.underlying e = some (.struct #[f0, f1, f2, f3])
  c : P.cellsOf e = 4
  b : P.bytesOf e = 64
  i0 : IsI P f0.type
  i1 : IsI P f1.type
  s2 : P.underlying f2.type = some (.slice ti) ∧ P.cellsOf f2.type = 1
  s3 : P.underlying f3.type = some (.slice ti) ∧ P.cellsOf f3.type = 1
  it : IsI P ti
  o : f0.offset = 0 ∧ f1.offset = 1 ∧ f2.offset = 2 ∧ f3.offset = 3
theorem back_ofF {e ti : TypeId} {f0 f1 f2 f3 : Field} (T : BackT P e f0 f1 f2 f3 ti) {n : Nat} {r : List Value} {y : DataW H × List MemPlace} (hl : r.length = 4) (h : DataW.trod enc P w base (fun _ => true) held n e r = some y) (hfit : Fits P e y.1) : ∃ m : BackM, r = m.cells ∧ m.ok w := by
  obtain ⟨xs, m, _, rfl, hlc, hlen, hf⟩ := DataW.trod_struct T.u h
  match xs, hlen with
  | [y0, y1, y2, y3], _ =>
    have g0 := hf 0 f0 rfl
    have g1 := hf 1 f1 rfl
    have g2 := hf 2 f2 rfl
    have g3 := hf 3 f3 rfl
    rw [T.i0.c, T.o.1] at g0
    rw [T.i1.c, T.o.2.1] at g1
    rw [T.s2.2, T.o.2.2.1] at g2
    rw [T.s3.2, T.o.2.2.2] at g3
    have F2 := Fits.field T.u hfit (i := 2) (f := f2) rfl rfl
    have F3 := Fits.field T.u hfit (i := 3) (f := f3) rfl rfl
    match r, hl with
    | [u0, u1, u2, u3], _ =>
      obtain ⟨z0, e0, _⟩ := i64_of_trod T.i0.u g0
      obtain ⟨z1, e1, _⟩ := i64_of_trod T.i1.u g1
      obtain ⟨A2, c2, l2, e2, r2, b2⟩ := ints_ofF T.s2.1 T.it g2 F2
      obtain ⟨A3, c3, l3, e3, r3, b3⟩ := ints_ofF T.s3.1 T.it g3 F3
      simp at e0 e1 e2 e3
      subst e0 e1 e2 e3
      exact ⟨⟨⟨z0, z1, l2, l3⟩, .slice A2 l2.length c2, .slice A3 l3.length c3⟩, rfl, r2, r3, b2, b3⟩
theorem exits_ofF {t tb e ti : TypeId} {f0 f1 f2 f3 : Field} (T : BackT P e f0 f1 f2 f3 ti) (ht : P.underlying t = some (.slice tb)) (htb : P.underlying tb = some (.slice e)) (hc : P.cellsOf tb = 1) (hb : P.bytesOf tb = 24)
    {fuel : Nat} {cs : List Value} {x : DataW H × List MemPlace} (h : DataW.trod enc P w base (fun _ => true) held fuel t cs = some x) (hfit : Fits P t x.1) :
    ∃ (A : Option Addr) (c : Nat) (xs : List (List BackV)), cs = [.slice A xs.length c] ∧ RdX w (.slice A xs.length c) xs ∧ xs.length * 24 ≤ 140737488355328 := by
  obtain ⟨A, c, l, rfl, hr, hby, hq⟩ := open_rows (fun e : ExM => [e.v]) (fun e => RdL w e.v e.l ∧ e.l.length * 64 ≤ 140737488355328) 1 (by omega) ht hc h hfit (fun n r y hl hy hfy => by
    obtain ⟨A, c, ms, rfl, hr, hby, hok⟩ := open_rows BackM.cells (fun m => m.ok w) 4 (by omega) htb T.c hy hfy (fun n r y hl hy hf => back_ofF T hl hy hf)
    rw [T.b] at hby
    exact ⟨⟨ms.map (·.v), .slice A ms.length c⟩, rfl, ⟨ms, rfl, by rw [List.length_map]; exact hr, hok⟩, by rw [List.length_map]; exact reach_le hby⟩)
  rw [hb] at hby
  rw [rows_one_val] at hr
  refine ⟨A, c, l.map (·.l), by rw [List.length_map], ⟨l, rfl, by rw [List.length_map]; exact hr, hq⟩, by rw [List.length_map]; exact reach_le hby⟩
/-- a step -/
structure SpecT (P : Program) (e : TypeId) (f0 f1 f2 f3 f4 f5 f6 : Field) : Prop where
  u : P.underlying e = some (.struct #[f0, f1, f2, f3, f4, f5, f6])
  c : P.cellsOf e = 7
  b : P.bytesOf e = 56
  i0 : P.underlying f0.type = some (.int .u8) ∧ P.cellsOf f0.type = 1
  i1 : IsI P f1.type
  i2 : IsI P f2.type
  i3 : IsI P f3.type
  i4 : IsI P f4.type
  i5 : IsI P f5.type
  i6 : IsI P f6.type
  o : f0.offset = 0 ∧ f1.offset = 1 ∧ f2.offset = 2 ∧ f3.offset = 3 ∧ f4.offset = 4 ∧ f5.offset = 5 ∧ f6.offset = 6
theorem spec_ofF {e : TypeId} {f0 f1 f2 f3 f4 f5 f6 : Field} (T : SpecT P e f0 f1 f2 f3 f4 f5 f6) {n : Nat} {r : List Value} {y : DataW H × List MemPlace} (hl : r.length = 7) (h : DataW.trod enc P w base (fun _ => true) held n e r = some y) : ∃ m : SpecV, r = m.cells := by
  obtain ⟨xs, m, _, rfl, hlc, hlen, hf⟩ := DataW.trod_struct T.u h
  match xs, hlen with
  | [y0, y1, y2, y3, y4, y5, y6], _ =>
    have g0 := hf 0 f0 rfl
    have g1 := hf 1 f1 rfl
    have g2 := hf 2 f2 rfl
    have g3 := hf 3 f3 rfl
    have g4 := hf 4 f4 rfl
    have g5 := hf 5 f5 rfl
    have g6 := hf 6 f6 rfl
    rw [T.i0.2, T.o.1] at g0
    rw [T.i1.c, T.o.2.1] at g1
    rw [T.i2.c, T.o.2.2.1] at g2
    rw [T.i3.c, T.o.2.2.2.1] at g3
    rw [T.i4.c, T.o.2.2.2.2.1] at g4
    rw [T.i5.c, T.o.2.2.2.2.2.1] at g5
    rw [T.i6.c, T.o.2.2.2.2.2.2] at g6
    match r, hl with
    | [u0, u1, u2, u3, u4, u5, u6], _ =>
      obtain ⟨z0, e0, _, _⟩ := DataW.trod_int T.i0.1 g0
      obtain ⟨z1, e1, _⟩ := i64_of_trod T.i1.u g1
      obtain ⟨z2, e2, _⟩ := i64_of_trod T.i2.u g2
      obtain ⟨z3, e3, _⟩ := i64_of_trod T.i3.u g3
      obtain ⟨z4, e4, _⟩ := i64_of_trod T.i4.u g4
      obtain ⟨z5, e5, _⟩ := i64_of_trod T.i5.u g5
      obtain ⟨z6, e6, _⟩ := i64_of_trod T.i6.u g6
      simp at e0 e1 e2 e3 e4 e5 e6
      subst e0 e1 e2 e3 e4 e5 e6
      exact ⟨⟨z0, z1, z2, z3, z4, z5, z6⟩, rfl⟩
/-- a need -/
structure NeedT (P : Program) (e : TypeId) (f0 f1 : Field) : Prop where
  u : P.underlying e = some (.struct #[f0, f1])
  c : P.cellsOf e = 2
  b : P.bytesOf e = 16
  i0 : IsI P f0.type
  i1 : P.underlying f1.type = some (.int .u32) ∧ P.cellsOf f1.type = 1
  o : f0.offset = 0 ∧ f1.offset = 1
theorem need_ofF {e : TypeId} {f0 f1 : Field} (T : NeedT P e f0 f1) {n : Nat} {r : List Value} {y : DataW H × List MemPlace} (hl : r.length = 2) (h : DataW.trod enc P w base (fun _ => true) held n e r = some y) : ∃ m : Int × Int, r = ncell m := by
  obtain ⟨xs, m, _, rfl, hlc, hlen, hf⟩ := DataW.trod_struct T.u h
  match xs, hlen with
  | [y0, y1], _ =>
    have g0 := hf 0 f0 rfl
    have g1 := hf 1 f1 rfl
    rw [T.i0.c, T.o.1] at g0
    rw [T.i1.2, T.o.2] at g1
    match r, hl with
    | [u0, u1], _ =>
      obtain ⟨z0, e0, _⟩ := i64_of_trod T.i0.u g0
      obtain ⟨z1, e1, _, _⟩ := DataW.trod_int T.i1.1 g1
      simp at e0 e1
      subst e0 e1
      exact ⟨(z0, z1), rfl⟩
/-- an op -/
structure OpV where
  d : Int
  fn : Int
  ep : Int
  tick : Int
  e : Ev
def OpV.cells (o : OpV) : List Value := [.int .i64 o.d, .int .i64 o.fn, .int .i64 o.ep, .int .i64 o.tick, .int .i64 o.e.ver, .int .i64 o.e.ep, .int .i64 o.e.till, .int .i64 o.e.fn, .int .i64 o.e.regs, o.e.cv, o.e.xv, o.e.nv]
def OpV.ok (w : World) (o : OpV) : Prop := o.e.ok w ∧ Is64 o.d ∧ Is64 o.fn ∧ Is64 o.ep ∧ Is64 o.tick ∧ Is64 o.e.ver ∧ Is64 o.e.ep ∧ Is64 o.e.till ∧ Is64 o.e.fn ∧ Is64 o.e.regs
def RdOps (w : World) (v : Value) (os : List OpV) : Prop := Rd 12 w v os.length (rows OpV.cells os) ∧ ∀ o ∈ os, o.ok w
structure FastT (P : Program) (t tc tx tn : TypeId) (f0 f1 f2 f3 f4 : Field) : Prop where
  u : P.underlying t = some (.struct #[f0, f1, f2, f3, f4])
  i0 : IsI P f0.type
  i1 : IsI P f1.type
  s2 : f2.type = tc ∧ P.cellsOf tc = 1
  s3 : f3.type = tx ∧ P.cellsOf tx = 1
  s4 : f4.type = tn ∧ P.cellsOf tn = 1
  o : f0.offset = 0 ∧ f1.offset = 1 ∧ f2.offset = 2 ∧ f3.offset = 3 ∧ f4.offset = 4
structure EntryT (P : Program) (t tf : TypeId) (f0 f1 f2 f3 : Field) : Prop where
  u : P.underlying t = some (.struct #[f0, f1, f2, f3])
  i0 : IsI P f0.type
  i1 : IsI P f1.type
  i2 : IsI P f2.type
  s3 : f3.type = tf ∧ P.cellsOf tf = 5
  o : f0.offset = 0 ∧ f1.offset = 1 ∧ f2.offset = 2 ∧ f3.offset = 3
structure OpT (P : Program) (t te : TypeId) (f0 f1 f2 f3 f4 : Field) : Prop where
  u : P.underlying t = some (.struct #[f0, f1, f2, f3, f4])
  c : P.cellsOf t = 12
  i0 : IsI P f0.type
  i1 : IsI P f1.type
  i2 : IsI P f2.type
  i3 : IsI P f3.type
  s4 : f4.type = te ∧ P.cellsOf te = 8
  o : f0.offset = 0 ∧ f1.offset = 1 ∧ f2.offset = 2 ∧ f3.offset = 3 ∧ f4.offset = 4
theorem fast_ofF {t tc tx tn tb es eb en ti : TypeId} {f0 f1 f2 f3 f4 s0 s1 s2 s3 s4 s5 s6 b0 b1 b2 b3 n0 n1 : Field} (T : FastT P t tc tx tn f0 f1 f2 f3 f4) (TS : SpecT P es s0 s1 s2 s3 s4 s5 s6) (TB : BackT P eb b0 b1 b2 b3 ti) (TN : NeedT P en n0 n1)
    (hc : P.underlying tc = some (.slice es)) (hx : P.underlying tx = some (.slice tb)) (hb : P.underlying tb = some (.slice eb)) (cb : P.cellsOf tb = 1) (bb : P.bytesOf tb = 24) (hn : P.underlying tn = some (.slice en))
    {n : Nat} {r : List Value} {y : DataW H × List MemPlace} (hl : r.length = 5) (h : DataW.trod enc P w base (fun _ => true) held n t r = some y) (hfit : Fits P t y.1) (ver ep till : Int) :
    ∃ e : Ev, e.ver = ver ∧ e.ep = ep ∧ e.till = till ∧ r = [.int .i64 e.fn, .int .i64 e.regs, e.cv, e.xv, e.nv] ∧ e.ok w ∧ Is64 e.fn ∧ Is64 e.regs := by
  obtain ⟨xs, m, _, rfl, hlc, hlen, hf⟩ := DataW.trod_struct T.u h
  match xs, hlen with
  | [y0, y1, y2, y3, y4], _ =>
    have g0 := hf 0 f0 rfl
    have g1 := hf 1 f1 rfl
    have g2 := hf 2 f2 rfl
    have g3 := hf 3 f3 rfl
    have g4 := hf 4 f4 rfl
    have F2 := Fits.field T.u hfit (i := 2) (f := f2) rfl rfl
    have F3 := Fits.field T.u hfit (i := 3) (f := f3) rfl rfl
    have F4 := Fits.field T.u hfit (i := 4) (f := f4) rfl rfl
    rw [T.i0.c, T.o.1] at g0
    rw [T.i1.c, T.o.2.1] at g1
    rw [T.s2.1, T.s2.2, T.o.2.2.1] at g2
    rw [T.s3.1, T.s3.2, T.o.2.2.2.1] at g3
    rw [T.s4.1, T.s4.2, T.o.2.2.2.2] at g4
    rw [T.s2.1] at F2
    rw [T.s3.1] at F3
    rw [T.s4.1] at F4
    match r, hl with
    | [u0, u1, u2, u3, u4], _ =>
      obtain ⟨z0, e0, q0⟩ := i64_of_trod T.i0.u g0
      obtain ⟨z1, e1, q1⟩ := i64_of_trod T.i1.u g1
      obtain ⟨A2, c2, l2, e2, r2, w2, _⟩ := open_rows SpecV.cells (fun _ => True) 7 (by omega) hc TS.c g2 F2 (fun n r y hl hy _ => by obtain ⟨m, hm⟩ := spec_ofF TS hl hy; exact ⟨m, hm, trivial⟩)
      obtain ⟨A3, c3, l3, e3, r3, w3⟩ := exits_ofF TB hx hb cb bb g3 F3
      obtain ⟨A4, c4, l4, e4, r4, w4, _⟩ := open_rows ncell (fun _ => True) 2 (by omega) hn TN.c g4 F4 (fun n r y hl hy _ => by obtain ⟨m, hm⟩ := need_ofF TN hl hy; exact ⟨m, hm, trivial⟩)
      rw [TS.b] at w2
      rw [TN.b] at w4
      simp at e0 e1 e2 e3 e4
      subst e0 e1 e2 e3 e4
      exact ⟨⟨ver, ep, till, z0, z1, l2, .slice A2 l2.length c2, l3, .slice A3 l3.length c3, l4, .slice A4 l4.length c4⟩, rfl, rfl, rfl, rfl, ⟨r4, reach_le w4, r2, reach_le w2, r3, w3⟩, q0, q1⟩
theorem entry_ofF {t tf tc tx tn tb es eb en ti : TypeId} {g0' g1' g2' g3' f0 f1 f2 f3 f4 s0 s1 s2 s3 s4 s5 s6 b0 b1 b2 b3 n0 n1 : Field} (TE : EntryT P t tf g0' g1' g2' g3') (T : FastT P tf tc tx tn f0 f1 f2 f3 f4) (TS : SpecT P es s0 s1 s2 s3 s4 s5 s6) (TB : BackT P eb b0 b1 b2 b3 ti) (TN : NeedT P en n0 n1)
    (hc : P.underlying tc = some (.slice es)) (hx : P.underlying tx = some (.slice tb)) (hb : P.underlying tb = some (.slice eb)) (cb : P.cellsOf tb = 1) (bb : P.bytesOf tb = 24) (hn : P.underlying tn = some (.slice en))
    {n : Nat} {r : List Value} {y : DataW H × List MemPlace} (hl : r.length = 8) (h : DataW.trod enc P w base (fun _ => true) held n t r = some y) (hfit : Fits P t y.1) :
    ∃ e : Ev, r = e.cells.toList ∧ e.ok w ∧ Is64 e.ver ∧ Is64 e.ep ∧ Is64 e.till ∧ Is64 e.fn ∧ Is64 e.regs := by
  obtain ⟨xs, m, _, rfl, hlc, hlen, hf⟩ := DataW.trod_struct TE.u h
  match xs, hlen with
  | [y0, y1, y2, y3], _ =>
    have g0 := hf 0 g0' rfl
    have g1 := hf 1 g1' rfl
    have g2 := hf 2 g2' rfl
    have g3 := hf 3 g3' rfl
    have F3 := Fits.field TE.u hfit (i := 3) (f := g3') rfl rfl
    rw [TE.i0.c, TE.o.1] at g0
    rw [TE.i1.c, TE.o.2.1] at g1
    rw [TE.i2.c, TE.o.2.2.1] at g2
    rw [TE.s3.1, TE.s3.2, TE.o.2.2.2] at g3
    rw [TE.s3.1] at F3
    match r, hl with
    | [u0, u1, u2, u3, u4, u5, u6, u7], _ =>
      obtain ⟨z0, e0, q0⟩ := i64_of_trod TE.i0.u g0
      obtain ⟨z1, e1, q1⟩ := i64_of_trod TE.i1.u g1
      obtain ⟨z2, e2, q2⟩ := i64_of_trod TE.i2.u g2
      obtain ⟨e, hv, he, ht, hr, ok, q3, q4⟩ := fast_ofF T TS TB TN hc hx hb cb bb hn (by rfl) g3 F3 z0 z1 z2
      simp at e0 e1 e2 hr
      obtain ⟨r3, r4, r5, r6, r7⟩ := hr
      subst e0 e1 e2 r3 r4 r5 r6 r7
      refine ⟨e, ?_, ok, hv ▸ q0, he ▸ q1, ht ▸ q2, q3, q4⟩
      unfold Ev.cells
      rw [hv, he, ht]
theorem ops_ofF {t e te tf tc tx tn tb es eb en ti : TypeId} {h0' h1' h2' h3' h4' g0' g1' g2' g3' f0 f1 f2 f3 f4 s0 s1 s2 s3 s4 s5 s6 b0 b1 b2 b3 n0 n1 : Field} (TO : OpT P e te h0' h1' h2' h3' h4') (TE : EntryT P te tf g0' g1' g2' g3') (T : FastT P tf tc tx tn f0 f1 f2 f3 f4) (TS : SpecT P es s0 s1 s2 s3 s4 s5 s6) (TB : BackT P eb b0 b1 b2 b3 ti) (TN : NeedT P en n0 n1)
    (ht : P.underlying t = some (.slice e)) (hc : P.underlying tc = some (.slice es)) (hx : P.underlying tx = some (.slice tb)) (hb : P.underlying tb = some (.slice eb)) (cb : P.cellsOf tb = 1) (bb : P.bytesOf tb = 24) (hn : P.underlying tn = some (.slice en))
    {fuel : Nat} {cs : List Value} {x : DataW H × List MemPlace} (h : DataW.trod enc P w base (fun _ => true) held fuel t cs = some x) (hfit : Fits P t x.1) :
    ∃ (A : Option Addr) (c : Nat) (os : List OpV), cs = [.slice A os.length c] ∧ RdOps w (.slice A os.length c) os := by
  obtain ⟨A, c, l, rfl, hr, hby, hq⟩ := open_rows OpV.cells (fun o => o.ok w) 12 (by omega) ht TO.c h hfit (fun n r y hl hy hfy => by
    obtain ⟨xs, m, _, rfl, hlc, hlen, hf⟩ := DataW.trod_struct TO.u hy
    match xs, hlen with
    | [y0, y1, y2, y3, y4], _ =>
      have g0 := hf 0 h0' rfl
      have g1 := hf 1 h1' rfl
      have g2 := hf 2 h2' rfl
      have g3 := hf 3 h3' rfl
      have g4 := hf 4 h4' rfl
      have F4 := Fits.field TO.u hfy (i := 4) (f := h4') rfl rfl
      rw [TO.i0.c, TO.o.1] at g0
      rw [TO.i1.c, TO.o.2.1] at g1
      rw [TO.i2.c, TO.o.2.2.1] at g2
      rw [TO.i3.c, TO.o.2.2.2.1] at g3
      rw [TO.s4.1, TO.s4.2, TO.o.2.2.2.2] at g4
      rw [TO.s4.1] at F4
      match r, hl with
      | [u0, u1, u2, u3, u4, u5, u6, u7, u8, u9, u10, u11], _ =>
        obtain ⟨z0, e0, q0⟩ := i64_of_trod TO.i0.u g0
        obtain ⟨z1, e1, q1⟩ := i64_of_trod TO.i1.u g1
        obtain ⟨z2, e2, q2⟩ := i64_of_trod TO.i2.u g2
        obtain ⟨z3, e3, q3⟩ := i64_of_trod TO.i3.u g3
        obtain ⟨ev, hr, ok, p0, p1, p2, p3, p4⟩ := entry_ofF TE T TS TB TN hc hx hb cb bb hn (by rfl) g4 F4
        simp [Ev.cells] at e0 e1 e2 e3 hr
        obtain ⟨r4, r5, r6, r7, r8, r9, r10, r11⟩ := hr
        subst e0 e1 e2 e3 r4 r5 r6 r7 r8 r9 r10 r11
        exact ⟨⟨z0, z1, z2, z3, ev⟩, rfl, ok, q0, q1, q2, q3, p0, p1, p2, p3, p4⟩)
  exact ⟨A, c, l, rfl, hr, hq⟩
end
end Go.Proofs.Ytfmoagpfgkokcaa
