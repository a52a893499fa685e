import Derived.Test.YtfbhcapcnkcfdaaLogI
import Derived.Deep.RegionHeld
/-! Four Adds in a row, three 'make's free between them: a region whose order is drawn, by its states. -/
namespace Go.Proofs.Ytfbhcapcnkcfdaa
open Go.RowKit
set_option linter.unusedVariables false
set_option linter.unusedSimpArgs false

/-- a region whose order is drawn, from state to state -/
theorem wpAnyH_go {P : Program} {md : Region.Mode} {ops : Array Oper} {Q : Exit → Act → World → Prop} {S : World → Prop} (J : Nat → Array Bool → Act → World → Prop) (c : Nat)
    (base : ∀ listed a w, J 0 listed a w → wpAnyH P md ops Q S c listed a w)
    (step : ∀ r listed a w, J (r + 1) listed a w → Region.ready md ops listed ≠ [] ∧ ∀ i ∈ Region.ready md ops listed, wpOp P ops Q i (fun a' w' => S w' ∧ J r (listed.setIfInBounds i true) a' w') a w) :
    ∀ r listed a w, J r listed a w → wpAnyH P md ops Q S (r + c) listed a w
  | 0, listed, a, w, h => by rw [Nat.zero_add]; exact base listed a w h
  | r + 1, listed, a, w, h => by
    obtain ⟨hne, hs⟩ := step r listed a w h
    rw [show r + 1 + c = (r + c) + 1 by omega]
    exact ⟨fun h0 => absurd h0 hne, fun i hi => wpOp_mono (fun a' w' h' => ⟨h'.1, wpAnyH_go J c base step r _ a' w' h'.2⟩) (hs i hi)⟩
def listedA (m1 m2 m3 : Bool) (k : Nat) : Array Bool := #[true, decide (1 ≤ k), true, m1, decide (2 ≤ k), true, m2, decide (3 ≤ k), true, m3, decide (4 ≤ k), false, false, false, false]
def D7 : List Nat := [174, 176, 177, 179, 180, 182, 183]
structure Agree (a0 a : Act) : Prop where
  defers : a.defers = a0.defers
  size : a.tmps.size = a0.tmps.size
  at_ : ∀ t, t ∉ D7 → a.tmps[t]? = a0.tmps[t]?
theorem put_same {a : Act} {d : Nat} {v : Value} (h : d < a.tmps.size) : (a.put (some d) v).tmps[d]? = some v := by
  simp [Act.put, Array.getElem?_setIfInBounds, h]
theorem put_other {a : Act} {d t : Nat} {v : Value} (h : d ≠ t) : (a.put (some d) v).tmps[t]? = a.tmps[t]? := by
  simp [Act.put, Array.getElem?_setIfInBounds, h]
theorem Agree.put {a0 a : Act} (h : Agree a0 a) {d : Nat} (hd : d ∈ D7) (v : Value) : Agree a0 (a.put (some d) v) :=
  ⟨h.defers, by simp [Act.put, h.size], fun t ht => (put_other (fun e => ht (by rw [← e]; exact hd))).trans (h.at_ t ht)⟩
def chain7 (a : Act) (v1 y1 v2 y2 v3 y3 v4 : Value) : Act := { tmps := ((((((a.tmps.setIfInBounds 174 v1).setIfInBounds 176 y1).setIfInBounds 177 v2).setIfInBounds 179 y2).setIfInBounds 180 v3).setIfInBounds 182 y3).setIfInBounds 183 v4, defers := a.defers }
set_option maxRecDepth 100000 in
set_option maxHeartbeats 1000000 in
theorem chain_tmps {t t0 : Array Value} (hs : t.size = t0.size) (ha : ∀ i, i ∉ D7 → t[i]? = t0[i]?) {v1 y1 v2 y2 v3 y3 v4 : Value} (e1 : t[174]? = some v1) (e2 : t[176]? = some y1) (e3 : t[177]? = some v2) (e4 : t[179]? = some y2) (e5 : t[180]? = some v3) (e6 : t[182]? = some y3) (e7 : t[183]? = some v4) :
    t = ((((((t0.setIfInBounds 174 v1).setIfInBounds 176 y1).setIfInBounds 177 v2).setIfInBounds 179 y2).setIfInBounds 180 v3).setIfInBounds 182 y3).setIfInBounds 183 v4 := by
  have lt : ∀ {k : Nat} {v : Value}, t[k]? = some v → k < t0.size := fun {k v} e => by
    rw [← hs]
    exact (Array.getElem?_eq_some_iff.1 e).1
  apply Array.ext_getElem?
  intro i
  by_cases q7 : 183 = i
  · subst q7; rw [e7]; simp [Array.getElem?_setIfInBounds, lt e7]
  by_cases q6 : 182 = i
  · subst q6; rw [e6]; simp [Array.getElem?_setIfInBounds, lt e6]
  by_cases q5 : 180 = i
  · subst q5; rw [e5]; simp [Array.getElem?_setIfInBounds, lt e5]
  by_cases q4 : 179 = i
  · subst q4; rw [e4]; simp [Array.getElem?_setIfInBounds, lt e4]
  by_cases q3 : 177 = i
  · subst q3; rw [e3]; simp [Array.getElem?_setIfInBounds, lt e3]
  by_cases q2 : 176 = i
  · subst q2; rw [e2]; simp [Array.getElem?_setIfInBounds, lt e2]
  by_cases q1 : 174 = i
  · subst q1; rw [e1]; simp [Array.getElem?_setIfInBounds, lt e1]
  rw [ha i (by simp only [D7, List.mem_cons, List.not_mem_nil, or_false]; omega)]
  simp [Array.getElem?_setIfInBounds, q1, q2, q3, q4, q5, q6, q7]
theorem Agree.chain {a0 a : Act} (h : Agree a0 a) {v1 y1 v2 y2 v3 y3 v4 : Value} (e1 : a.tmps[174]? = some v1) (e2 : a.tmps[176]? = some y1) (e3 : a.tmps[177]? = some v2) (e4 : a.tmps[179]? = some y2) (e5 : a.tmps[180]? = some v3) (e6 : a.tmps[182]? = some y3) (e7 : a.tmps[183]? = some v4) : a = chain7 a0 v1 y1 v2 y2 v3 y3 v4 := by
  have h1 := chain_tmps h.size h.at_ e1 e2 e3 e4 e5 e6 e7
  have h2 := h.defers
  have h3 : ∀ (x : Act) (t : Array Value), x.tmps = t → x.defers = a0.defers → x = { tmps := t, defers := a0.defers } := fun x t e1 e2 => by
    obtain ⟨t', d'⟩ := x
    dsimp only at e1 e2
    rw [e1, e2]
  exact h3 a _ h1 h2
def dk (k : Nat) : DSt := if k ≤ 3 then diskOf 30 [] (-1) else diskOf 30 [z22] (-1)
def lk (k : Nat) : LSt := if k ≤ 3 then logOf [] else logOf [z22]
/-- what a state holds -/
structure Rg (w0 : World) (g gl : Nat) (a0 : Act) (m1 m2 m3 : Bool) (k : Nat) (y1 y2 y3 : Value) (a : Act) (w : World) : Prop where
  agree : Agree a0 a
  sl : ∃ v, SL w0 w g v (dk k) gl (lk k) ∧ (m1 = true → Made w g v y1 (List.replicate 1048577 0)) ∧ (m2 = true → Made w g v y2 (List.replicate 23 0)) ∧ (m3 = true → Made w g v y3 (List.replicate 22 0))
  r1 : 1 ≤ k → a.tmps[174]? = some (.int .i64 2)
  r2 : 2 ≤ k → a.tmps[177]? = some (.int .i64 3)
  r3 : 3 ≤ k → a.tmps[180]? = some (.int .i64 5)
  r4 : 4 ≤ k → a.tmps[183]? = some (.int .i64 0)
  t1 : m1 = true → a.tmps[176]? = some y1
  t2 : m2 = true → a.tmps[179]? = some y2
  t3 : m3 = true → a.tmps[182]? = some y3
def Jg (w0 : World) (g gl : Nat) (a0 : Act) (r : Nat) (listed : Array Bool) (a : Act) (w : World) : Prop :=
  ∃ (m1 m2 m3 : Bool) (k : Nat) (y1 y2 y3 : Value), listed = listedA m1 m2 m3 k ∧ r + (m1.toNat + m2.toNat + m3.toNat + k) = 7 ∧ k ≤ 4 ∧ (2 ≤ k → m1 = true) ∧ (3 ≤ k → m2 = true) ∧ (4 ≤ k → m3 = true) ∧ Rg w0 g gl a0 m1 m2 m3 k y1 y2 y3 a w
def waits (o : Oper) (j : Nat) : Bool := o.after.any (fun e => Region.binds .any e && e.on == j)
theorem waits_for {o : Oper} {j : Nat} (h : waits o j = true) {listed : Array Bool} (hall : ∀ e ∈ o.after, Region.binds .any e = true → listed.getD e.on false = true) : listed.getD j false = true := by
  unfold waits at h
  obtain ⟨i, hi, he⟩ := Array.any_eq_true.1 h
  rw [Bool.and_eq_true, beq_iff_eq] at he
  have := hall _ (Array.getElem_mem hi) he.1
  rw [he.2] at this
  exact this
def isAdd (o : Oper) (d : Nat) (x y : Operand) : Prop := o.guard = none ∧ o.dst = some d ∧ ∃ t t2, o.op = .call { callee := .value (.func 10), args := #[x, y], argTypes := #[t, t2] }
def isMake (o : Oper) (d : Nat) (n : Int) : Prop := o.guard = none ∧ o.dst = some d ∧ o.op = Op.makeSlice 22 (.const (.int .i64 n)) (.const (.int .i64 n))
/-- the region's operations -/
structure Ops32 (ops : Array Oper) : Prop where
  size : ops.size = 15
  o1 : ∃ o, ops[1]? = some o ∧ isAdd o 174 (.tmp 173) (.const (.slice none 0 0))
  o3 : ∃ o, ops[3]? = some o ∧ isMake o 176 1048577
  o4 : ∃ o, ops[4]? = some o ∧ isAdd o 177 (.tmp 175) (.tmp 176) ∧ waits o 1 = true ∧ waits o 3 = true
  o6 : ∃ o, ops[6]? = some o ∧ isMake o 179 23
  o7 : ∃ o, ops[7]? = some o ∧ isAdd o 180 (.tmp 178) (.tmp 179) ∧ waits o 4 = true ∧ waits o 6 = true
  o9 : ∃ o, ops[9]? = some o ∧ isMake o 182 22
  o10 : ∃ o, ops[10]? = some o ∧ isAdd o 183 (.tmp 181) (.tmp 182) ∧ waits o 7 = true ∧ waits o 9 = true
  o11 : ∃ o, ops[11]? = some o ∧ waits o 10 = true
  o12 : ∃ o, ops[12]? = some o ∧ waits o 11 = true
  o13 : ∃ o, ops[13]? = some o ∧ waits o 12 = true
  o14 : ∃ o, ops[14]? = some o ∧ waits o 13 = true
  ne : ∀ m1 m2 m3 k, k ≤ 4 → (2 ≤ k → m1 = true) → (3 ≤ k → m2 = true) → (4 ≤ k → m3 = true) → ¬ (m1 = true ∧ m2 = true ∧ m3 = true ∧ k = 4) → Region.ready .any ops (listedA m1 m2 m3 k) ≠ []
theorem eval_of {a : Act} {t : Nat} {v : Value} (h : a.tmps[t]? = some v) : a.eval (.tmp t) = v := by
  show a.tmps.getD t undef = v
  rw [Array.getD_eq_getD_getElem?, h]
  rfl
section
variable {ops : Array Oper} {Q : Exit → Act → World → Prop} {w0 w : World} {g gl : Nat} {a0 a : Act} {listed : Array Bool} {r : Nat}
theorem HB0 : (0 : Int) ≤ (logOf []).n ∧ (logOf []).n ≤ 4611686018427387904 ∧ (0 : Int) ≤ (logOf []).bytes ∧ (logOf []).bytes ≤ 4611686018427387904 := by simp [logOf, recsB]
set_option maxRecDepth 100000 in
set_option maxHeartbeats 1000000 in
theorem step_make_ {o : Oper} {d : Nat} {n : Nat} (ho : isMake o d n) (hn : n ≤ 281474976710656) (K' : Act → World → Prop)
    (h : ∀ w', OwnB 5 w' (.slice (some ⟨w.heap.size, 0, none⟩) n n) (List.replicate n 0) → Fr No w w' → K' (a.put (some d) (.slice (some ⟨w.heap.size, 0, none⟩) n n)) w') :
    if Region.wanted o (yielded ops a.tmps) = true then Oper.wp Try.prog o a w K' Q else K' (a.put o.dst undef) w := by
  obtain ⟨hg, hd, hop⟩ := ho
  refine step_makeB w hg _ _ _ hop 5 Try.underlying22 infoU8 .i64 .i64 n n n rfl rfl rfl rfl hn (fun w' h1 h2 => ?_)
  rw [hd]
  exact h w' h1 h2
theorem jg_make (hO : Ops32 ops) {i d : Nat} {n : Nat} {o : Oper} (ho : ops[i]? = some o) (hm : isMake o d n) (hn : n ≤ 281474976710656) {J : Act → World → Prop}
    (h : ∀ w', OwnB 5 w' (.slice (some ⟨w.heap.size, 0, none⟩) n n) (List.replicate n 0) → Fr No w w' → J (a.put (some d) (.slice (some ⟨w.heap.size, 0, none⟩) n n)) w') :
    wpOp Try.prog ops Q i (fun a' w' => True ∧ J a' w') a w :=
  wpOp_step ho (fun K' hK => step_make_ hm hn K' (fun w' h1 h2 => hK _ _ ⟨trivial, h w' h1 h2⟩))
theorem jg_add {i d : Nat} {o : Oper} {x y : Operand} (ho : ops[i]? = some o) (hm : isAdd o d x y) (hx : a.eval x = .pointer (some ⟨gl, 0, none⟩)) {v v2 : Value} (hy : a.eval y = v2) {dd : DSt} {l : LSt} (S : SL w0 w g v dd gl l) {xs : List UInt8} (hr : RdB w v2 xs)
    (hb : (0 : Int) ≤ l.n ∧ l.n ≤ 4611686018427387904 ∧ (0 : Int) ≤ l.bytes ∧ l.bytes ≤ 4611686018427387904) {rr : DSt × LSt × Nat} (hadd : addL dd l xs = rr) {J : Act → World → Prop}
    (h : ∀ v' w', SL w0 w' g v' rr.1 gl rr.2.1 → (∀ y xs, Made w g v y xs → Made w' g v' y xs) → J (a.put (some d) (.int .i64 rr.2.2)) w') :
    wpOp Try.prog ops Q i (fun a' w' => True ∧ J a' w') a w := by
  obtain ⟨hg, hd, t, t2, hop⟩ := hm
  refine wpOp_step ho (fun K' hK => step_add hg x y t t2 hop hx v2 hy S xs hr hb rr hadd (fun v' w' h1 h2 => ?_))
  rw [hd]
  exact hK _ _ ⟨trivial, h v' w' h1 h2⟩
set_option maxRecDepth 100000 in
set_option maxHeartbeats 2000000 in
theorem jg_step (hO : Ops32 ops) (hsz : a0.tmps.size = 262) (p1 : a0.tmps[173]? = some (.pointer (some ⟨gl, 0, none⟩))) (p2 : a0.tmps[175]? = some (.pointer (some ⟨gl, 0, none⟩))) (p3 : a0.tmps[178]? = some (.pointer (some ⟨gl, 0, none⟩))) (p4 : a0.tmps[181]? = some (.pointer (some ⟨gl, 0, none⟩)))
    (h : Jg w0 g gl a0 (r + 1) listed a w) : Region.ready .any ops listed ≠ [] ∧ ∀ i ∈ Region.ready .any ops listed, wpOp Try.prog ops Q i (fun a' w' => True ∧ Jg w0 g gl a0 r (listed.setIfInBounds i true) a' w') a w := by
  obtain ⟨m1, m2, m3, k, y1, y2, y3, rfl, hsum, hk, c1, c2, c3, hR⟩ := h
  refine ⟨hO.ne m1 m2 m3 k hk c1 c2 c3 (fun ⟨e1, e2, e3, e4⟩ => by subst e1 e2 e3 e4; simp at hsum), fun i hi => ?_⟩
  obtain ⟨hjun, oj, hoj, hall⟩ := mem_ready.1 hi
  have hi15 : i < 15 := by
    rw [← hO.size]
    exact (Array.getElem?_eq_some_iff.1 hoj).1
  have hsa : a.tmps.size = 262 := hR.agree.size.trans hsz
  have q1 := (hR.agree.at_ 173 (by decide)).trans p1
  have q2 := (hR.agree.at_ 175 (by decide)).trans p2
  have q3 := (hR.agree.at_ 178 (by decide)).trans p3
  have q4 := (hR.agree.at_ 181 (by decide)).trans p4
  obtain ⟨v, hS, M1, M2, M3⟩ := hR.sl
  rcases (show i = 0 ∨ i = 1 ∨ i = 2 ∨ i = 3 ∨ i = 4 ∨ i = 5 ∨ i = 6 ∨ i = 7 ∨ i = 8 ∨ i = 9 ∨ i = 10 ∨ i = 11 ∨ i = 12 ∨ i = 13 ∨ i = 14 by omega) with rfl | rfl | rfl | rfl | rfl | rfl | rfl | rfl | rfl | rfl | rfl | rfl | rfl | rfl | rfl
  · simp [listedA] at hjun
  · -- the first Add
    have hk0 : k = 0 := by simp [listedA] at hjun; omega
    subst hk0
    obtain ⟨o, ho, hm⟩ := hO.o1
    refine jg_add ho hm (eval_of q1) rfl (show SL w0 w g v (diskOf 30 [] (-1)) gl (logOf []) from hS) (RdB.nil _) HB0 full_0 (fun v' w' h1 h2 => ?_)
    exact ⟨m1, m2, m3, 1, y1, y2, y3, by simp [listedA], by omega, by omega, fun h => by omega, fun h => by omega, fun h => by omega, hR.agree.put (by decide) _, ⟨v', h1, fun e => h2 _ _ (M1 e), fun e => h2 _ _ (M2 e), fun e => h2 _ _ (M3 e)⟩, fun _ => put_same (by omega), fun h => by omega, fun h => by omega, fun h => by omega, fun e => (put_other (by decide)).trans (hR.t1 e), fun e => (put_other (by decide)).trans (hR.t2 e), fun e => (put_other (by decide)).trans (hR.t3 e)⟩
  · simp [listedA] at hjun
  · have hm0 : m1 = false := by simpa [listedA] using hjun
    subst hm0
    obtain ⟨o, ho, hm⟩ := hO.o3
    refine jg_make hO ho (n := 1048577) hm (by omega) (fun w' h1 h2 => ?_)
    refine ⟨true, m2, m3, k, _, y2, y3, by simp [listedA], by simp at hsum ⊢; omega, hk, fun _ => rfl, c2, c3, hR.agree.put (by decide) _, ⟨v, hS.keep h2, fun _ => Made.new hS h1, fun e => (M2 e).keep h2, fun e => (M3 e).keep h2⟩, fun e => (put_other (by decide)).trans (hR.r1 e), fun e => (put_other (by decide)).trans (hR.r2 e), fun e => (put_other (by decide)).trans (hR.r3 e), fun e => (put_other (by decide)).trans (hR.r4 e), fun _ => put_same (by omega), fun e => (put_other (by decide)).trans (hR.t2 e), fun e => (put_other (by decide)).trans (hR.t3 e)⟩
  · obtain ⟨o, ho, hm, w1, w2⟩ := hO.o4
    obtain rfl : oj = o := by rw [ho] at hoj; exact (Option.some.inj hoj).symm
    have e1 := waits_for w1 hall
    have e2 := waits_for w2 hall
    have hk1 : k = 1 := by simp [listedA] at hjun e1; omega
    have hm1 : m1 = true := by simpa [listedA] using e2
    subst hk1 hm1
    refine jg_add ho hm (eval_of q2) (eval_of (hR.t1 rfl)) (show SL w0 w g v (diskOf 30 [] (-1)) gl (logOf []) from hS) (M1 rfl).own.rd HB0 full_1 (fun v' w' h1 h2 => ?_)
    exact ⟨true, m2, m3, 2, y1, y2, y3, by simp [listedA], by omega, by omega, fun _ => rfl, fun h => by omega, fun h => by omega, hR.agree.put (by decide) _, ⟨v', h1, fun e => h2 _ _ (M1 e), fun e => h2 _ _ (M2 e), fun e => h2 _ _ (M3 e)⟩, fun _ => (put_other (by decide)).trans (hR.r1 (Nat.le_refl _)), fun _ => put_same (by omega), fun h => by omega, fun h => by omega, fun e => (put_other (by decide)).trans (hR.t1 e), fun e => (put_other (by decide)).trans (hR.t2 e), fun e => (put_other (by decide)).trans (hR.t3 e)⟩
  · simp [listedA] at hjun
  · have hm0 : m2 = false := by simpa [listedA] using hjun
    subst hm0
    obtain ⟨o, ho, hm⟩ := hO.o6
    refine jg_make hO ho (n := 23) hm (by omega) (fun w' h1 h2 => ?_)
    refine ⟨m1, true, m3, k, y1, _, y3, by simp [listedA], by simp at hsum ⊢; omega, hk, c1, fun _ => rfl, c3, hR.agree.put (by decide) _, ⟨v, hS.keep h2, fun e => (M1 e).keep h2, fun _ => Made.new hS h1, fun e => (M3 e).keep h2⟩, fun e => (put_other (by decide)).trans (hR.r1 e), fun e => (put_other (by decide)).trans (hR.r2 e), fun e => (put_other (by decide)).trans (hR.r3 e), fun e => (put_other (by decide)).trans (hR.r4 e), fun e => (put_other (by decide)).trans (hR.t1 e), fun _ => put_same (by omega), fun e => (put_other (by decide)).trans (hR.t3 e)⟩
  · obtain ⟨o, ho, hm, w1, w2⟩ := hO.o7
    obtain rfl : oj = o := by rw [ho] at hoj; exact (Option.some.inj hoj).symm
    have e1 := waits_for w1 hall
    have e2 := waits_for w2 hall
    have hk1 : k = 2 := by simp [listedA] at hjun e1; omega
    have hm1 : m2 = true := by simpa [listedA] using e2
    subst hk1 hm1
    refine jg_add ho hm (eval_of q3) (eval_of (hR.t2 rfl)) (show SL w0 w g v (diskOf 30 [] (-1)) gl (logOf []) from hS) (M2 rfl).own.rd HB0 full_2 (fun v' w' h1 h2 => ?_)
    exact ⟨m1, true, m3, 3, y1, y2, y3, by simp [listedA], by omega, by omega, fun _ => c1 (by omega), fun _ => rfl, fun h => by omega, hR.agree.put (by decide) _, ⟨v', h1, fun e => h2 _ _ (M1 e), fun e => h2 _ _ (M2 e), fun e => h2 _ _ (M3 e)⟩, fun _ => (put_other (by decide)).trans (hR.r1 (by omega)), fun _ => (put_other (by decide)).trans (hR.r2 (by omega)), fun _ => put_same (by omega), fun h => by omega, fun e => (put_other (by decide)).trans (hR.t1 e), fun e => (put_other (by decide)).trans (hR.t2 e), fun e => (put_other (by decide)).trans (hR.t3 e)⟩
  · simp [listedA] at hjun
  · have hm0 : m3 = false := by simpa [listedA] using hjun
    subst hm0
    obtain ⟨o, ho, hm⟩ := hO.o9
    refine jg_make hO ho (n := 22) hm (by omega) (fun w' h1 h2 => ?_)
    refine ⟨m1, m2, true, k, y1, y2, _, by simp [listedA], by simp at hsum ⊢; omega, hk, c1, c2, fun _ => rfl, hR.agree.put (by decide) _, ⟨v, hS.keep h2, fun e => (M1 e).keep h2, fun e => (M2 e).keep h2, fun _ => Made.new hS h1⟩, fun e => (put_other (by decide)).trans (hR.r1 e), fun e => (put_other (by decide)).trans (hR.r2 e), fun e => (put_other (by decide)).trans (hR.r3 e), fun e => (put_other (by decide)).trans (hR.r4 e), fun e => (put_other (by decide)).trans (hR.t1 e), fun e => (put_other (by decide)).trans (hR.t2 e), fun _ => put_same (by omega)⟩
  · obtain ⟨o, ho, hm, w1, w2⟩ := hO.o10
    obtain rfl : oj = o := by rw [ho] at hoj; exact (Option.some.inj hoj).symm
    have e1 := waits_for w1 hall
    have e2 := waits_for w2 hall
    have hk1 : k = 3 := by simp [listedA] at hjun e1; omega
    have hm1 : m3 = true := by simpa [listedA] using e2
    subst hk1 hm1
    refine jg_add ho hm (eval_of q4) (eval_of (hR.t3 rfl)) (show SL w0 w g v (diskOf 30 [] (-1)) gl (logOf []) from hS) (M3 rfl).own.rd HB0 full_3 (fun v' w' h1 h2 => ?_)
    exact ⟨m1, m2, true, 4, y1, y2, y3, by simp [listedA], by omega, by omega, fun _ => c1 (by omega), fun _ => c2 (by omega), fun _ => rfl, hR.agree.put (by decide) _, ⟨v', h1, fun e => h2 _ _ (M1 e), fun e => h2 _ _ (M2 e), fun e => h2 _ _ (M3 e)⟩, fun _ => (put_other (by decide)).trans (hR.r1 (by omega)), fun _ => (put_other (by decide)).trans (hR.r2 (by omega)), fun _ => (put_other (by decide)).trans (hR.r3 (by omega)), fun _ => put_same (by omega), fun e => (put_other (by decide)).trans (hR.t1 e), fun e => (put_other (by decide)).trans (hR.t2 e), fun e => (put_other (by decide)).trans (hR.t3 e)⟩
  · exfalso
    obtain ⟨o, ho, h⟩ := hO.o11
    obtain rfl : oj = o := by rw [ho] at hoj; exact (Option.some.inj hoj).symm
    have e1 := waits_for h hall
    have hk4 : 4 ≤ k := by simpa [listedA] using e1
    rw [c1 (by omega), c2 (by omega), c3 hk4] at hsum
    simp at hsum
    omega
  · obtain ⟨o, ho, h⟩ := hO.o12
    obtain rfl : oj = o := by rw [ho] at hoj; exact (Option.some.inj hoj).symm
    have e1 := waits_for h hall
    simp [listedA] at e1
  · obtain ⟨o, ho, h⟩ := hO.o13
    obtain rfl : oj = o := by rw [ho] at hoj; exact (Option.some.inj hoj).symm
    have e1 := waits_for h hall
    simp [listedA] at e1
  · obtain ⟨o, ho, h⟩ := hO.o14
    obtain rfl : oj = o := by rw [ho] at hoj; exact (Option.some.inj hoj).symm
    have e1 := waits_for h hall
    simp [listedA] at e1
theorem adds_region (hO : Ops32 ops) (hsz : a0.tmps.size = 262) (p1 : a0.tmps[173]? = some (.pointer (some ⟨gl, 0, none⟩))) (p2 : a0.tmps[175]? = some (.pointer (some ⟨gl, 0, none⟩))) (p3 : a0.tmps[178]? = some (.pointer (some ⟨gl, 0, none⟩))) (p4 : a0.tmps[181]? = some (.pointer (some ⟨gl, 0, none⟩)))
    {v : Value} (S : SL w0 w g v (diskOf 30 [] (-1)) gl (logOf [])) (hend : ∀ y1 y2 y3 v' w', SL w0 w' g v' (diskOf 30 [z22] (-1)) gl (logOf [z22]) → wpAnyH Try.prog .any ops Q (fun _ => True) 4 (listedA true true true 4) (chain7 a0 (.int .i64 2) y1 (.int .i64 3) y2 (.int .i64 5) y3 (.int .i64 0)) w') :
    wpAnyH Try.prog .any ops Q (fun _ => True) 11 (listedA false false false 0) a0 w := by
  refine wpAnyH_go (Jg w0 g gl a0) 4 ?_ (fun r listed a w h => jg_step hO hsz p1 p2 p3 p4 h) 7 _ a0 w ?_
  · rintro listed a w ⟨m1, m2, m3, k, y1, y2, y3, rfl, hsum, hk, c1, c2, c3, hR⟩
    have hb : ∀ m : Bool, m.toNat ≤ 1 := fun m => by cases m <;> simp
    have b1 := hb m1
    have b2 := hb m2
    have b3 := hb m3
    have hk4 : k = 4 := by omega
    subst hk4
    obtain rfl := c1 (by omega)
    obtain rfl := c2 (by omega)
    obtain rfl := c3 (by omega)
    obtain ⟨v', hS, _⟩ := hR.sl
    rw [hR.agree.chain (hR.r1 (by omega)) (hR.t1 rfl) (hR.r2 (by omega)) (hR.t2 rfl) (hR.r3 (by omega)) (hR.t3 rfl) (hR.r4 (by omega))]
    exact hend y1 y2 y3 v' w hS
  · exact ⟨false, false, false, 0, undef, undef, undef, rfl, rfl, by omega, (fun h => by omega), (fun h => by omega), (fun h => by omega), ⟨rfl, rfl, fun _ _ => rfl⟩, ⟨v, S, (fun h => by cases h), (fun h => by cases h), (fun h => by cases h)⟩, (fun h => by omega), (fun h => by omega), (fun h => by omega), (fun h => by omega), (fun h => by cases h), (fun h => by cases h), (fun h => by cases h)⟩
end
end Go.Proofs.Ytfbhcapcnkcfdaa
