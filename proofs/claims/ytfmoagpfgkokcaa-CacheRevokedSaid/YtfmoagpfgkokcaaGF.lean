import Derived.Test.YtfmoagpfgkokcaaGE
/-! Put. -/
namespace Go.Proofs.Ytfmoagpfgkokcaa
open Go.RowKit
set_option linter.unusedVariables false
set_option linter.unusedSimpArgs false

def getE (k : K2) (ms : List (K2 × Ev)) : Option Ev := (ms.find? (fun p => decide (p.1 = k))).map (·.2)
def putE (k : K2) (v : Ev) (ms : List (K2 × Ev)) : List (K2 × Ev) := if k ∈ ms.map (·.1) then ms.map (fun p => if p.1 = k then (k, v) else p) else ms ++ [(k, v)]
theorem valsE_keys (ms : List (K2 × Ev)) : (valsE ms).map (·.1) = ms.map (·.1) := by simp [valsE, List.map_map, Function.comp_def]
theorem get_valsE (k : K2) (ms : List (K2 × Ev)) : getK k (valsE ms) = (getE k ms).map Ev.val := by
  unfold getK getE valsE
  rw [List.find?_map]
  cases h : ms.find? (fun p => decide (p.1 = k)) with
  | none =>
    have : List.find? ((fun p : K2 × Value => @BEq.beq K2 instBEqOfDecidableEq p.1 k) ∘ fun p : K2 × Ev => (p.1, p.2.val)) ms = none := h
    rw [this]
    rfl
  | some p =>
    have : List.find? ((fun p : K2 × Value => @BEq.beq K2 instBEqOfDecidableEq p.1 k) ∘ fun p : K2 × Ev => (p.1, p.2.val)) ms = some p := h
    rw [this]
    rfl
theorem put_valsE (k : K2) (x : Ev) (ms : List (K2 × Ev)) : putK k x.val (valsE ms) = valsE (putE k x ms) := by
  unfold putK putE
  rw [valsE_keys]
  split
  · unfold valsE
    rw [List.map_map, List.map_map]
    apply List.map_congr_left
    intro p _
    by_cases hp : p.1 = k <;> simp [hp]
  · simp [valsE]
theorem mem_putE {k : K2} {x : Ev} {ms : List (K2 × Ev)} {p : K2 × Ev} : p ∈ putE k x ms → p = (k, x) ∨ (p ∈ ms ∧ p.1 ≠ k) := by
  unfold putE
  split
  · intro h
    obtain ⟨q, hq, he⟩ := List.mem_map.1 h
    by_cases hk : q.1 = k
    · rw [if_pos hk] at he; exact .inl he.symm
    · rw [if_neg hk] at he; subst he; exact .inr ⟨hq, hk⟩
  · intro h
    rename_i hk
    rcases List.mem_append.1 h with h | h
    · exact .inr ⟨h, fun e => hk (List.mem_map.2 ⟨p, h, e⟩)⟩
    · exact .inl (by simpa using h)
theorem getE_mem {k : K2} {e : Ev} {ms : List (K2 × Ev)} (h : getE k ms = some e) : (k, e) ∈ ms := by
  unfold getE at h
  cases hf : ms.find? (fun p => decide (p.1 = k)) with
  | none => rw [hf] at h; cases h
  | some q =>
    rw [hf] at h
    have h2 := List.find?_some hf
    simp at h2
    have h3 : q.2 = e := Option.some.inj h
    have := List.mem_of_find?_eq_some hf
    rw [← h2, ← h3]
    exact this
def zeroE : Ev := ⟨0, 0, 0, 0, 0, [], .slice none 0 0, [], .slice none 0 0, [], .slice none 0 0⟩
theorem zeroE_ok (w : World) : zeroE.ok w := ⟨Rd.nil 2 w, by decide, RdS.nil w, by decide, RdX.nil w, by decide⟩
/-- a copy, its parts in blocks not older than B -/
structure CopyAt (B : Nat) (w : World) (code : List SpecV) (exits : List (List BackV)) (needs : List (Int × Int)) (cv xv nv : Value) : Prop where
  cd : Own 60 7 w cv code.length (scells code)
  nd : OwnN w nv needs
  ex : RdXB (From B) w xv exits
  ncd : NewV (From B) cv
  nnd : NewV (From B) nv
theorem CopyAt.keep {B : Nat} {w w' : World} {S : Nat → Prop} {code : List SpecV} {exits : List (List BackV)} {needs : List (Int × Int)} {cv xv nv : Value} (h : CopyAt B w code exits needs cv xv nv) (hf : Fr S w w') (hS : ∀ x, S x → x < B) : CopyAt B w' code exits needs cv xv nv :=
  have hs : ∀ x, From B x → ¬ S x := fun x hx hs => by have h1 : B ≤ x := hx; have h2 := hS x hs; omega
  ⟨h.cd.keep hf (h.ncd.no hs), h.nd.keep hf (h.nnd.no hs), h.ex.keep hf hs, h.ncd, h.nnd⟩
theorem CopyAt.older {B B' : Nat} {w : World} {code : List SpecV} {exits : List (List BackV)} {needs : List (Int × Int)} {cv xv nv : Value} (h : CopyAt B w code exits needs cv xv nv) (hb : B' ≤ B) : CopyAt B' w code exits needs cv xv nv :=
  have hp : ∀ x, From B x → From B' x := fun x hx => Nat.le_trans hb hx
  ⟨h.cd, h.nd, h.ex.older hp, h.ncd.mono hp, h.nnd.mono hp⟩
theorem CopyOf.at_ {w0 w : World} {code : List SpecV} {exits : List (List BackV)} {needs : List (Int × Int)} {cv xv nv : Value} (h : CopyOf w0 w code exits needs cv xv nv) : CopyAt w0.heap.size w code exits needs cv xv nv := ⟨h.cd, h.nd, h.ex, h.ncd, h.nnd⟩
theorem CopyAt.ok {B : Nat} {w : World} {e : Ev} (h : CopyAt B w e.code e.exits e.needs e.cv e.xv e.nv) (h1 : e.needs.length * 16 ≤ 140737488355328) (h2 : e.code.length * 56 ≤ 140737488355328) (h3 : e.exits.length * 24 ≤ 140737488355328) : e.ok w := ⟨h.nd.rd, h1, h.cd.rd, h2, h.ex.rd, h3⟩
def wasE (k : K2) (ms : List (K2 × Ev)) : Ev := (getE k ms).getD zeroE
theorem wasE_ok {w : World} {g b fb : Nat} {ms : List (K2 × Ev)} {fs : List (Int × Int)} (h : IsC w g b fb ms fs) (k : K2) : (wasE k ms).ok w := by
  unfold wasE
  cases hg : getE k ms with
  | none => exact zeroE_ok w
  | some e => exact h.rows _ (getE_mem hg)
theorem look2 {w : World} {b : Nat} {ms : List (K2 × Ev)} (hm : MapAt enc2 w b (valsE ms)) (k : K2) : (Instr.lookup 64 (.map (some b)) (enc2 k) true).run Try.prog w = .ok (.tuple #[(wasE k ms).val, .bool (getE k ms).isSome]) w := by
  have := run_look2 (P := Try.prog) (T := 64) (K := 72) (E := 28) Try.underlying64 keyOK2 (z := zeroE.val) (by kernel_rfl) hm k
  rw [this, get_valsE]
  unfold wasE
  cases getE k ms <;> rfl
/-- is a put refused for what is there? -/
def elder (e : Ev) (ms : List (K2 × Ev)) : Bool := (getE (e.ver, e.fn) ms).isSome && decide (e.ep < (wasE (e.ver, e.fn) ms).ep)
def RetPut (w : World) (g b fb : Nat) (ms : List (K2 × Ev)) (fs : List (Int × Int)) (e : Ev) : Ending → World → Prop := fun en w' =>
  ∃ r : Bool, en = .returned (.bool r) ∧ r = !(belowB fs e || elder e ms) ∧ (r = false → Fr No w w') ∧
    (r = true → ∃ cv' xv' nv', IsC w' g b fb (putE (e.ver, e.fn) ⟨e.ver, e.ep, e.till, e.fn, e.regs, e.code, cv', e.exits, xv', e.needs, nv'⟩ ms) fs ∧ CopyAt w.heap.size w' e.code e.exits e.needs cv' xv' nv' ∧ Fr (fun x => x = b) w w')
set_option maxRecDepth 100000 in
set_option maxHeartbeats 4000000 in
theorem put_c {w : World} {g b fb : Nat} {ms : List (K2 × Ev)} {fs : List (Int × Int)} (h : IsC w g b fb ms fs) (e : Ev) (he : e.ok w) :
    Calls Try.prog 11 #[.pointer (some ⟨g, 0, none⟩), e.val] w (RetPut w g b fb ms fs e) := by
  obtain ⟨A, c, Ac, nc, cc, Ax, nx, cx, hv, hvc, hvx⟩ := Ev.slice he
  obtain ⟨W, hW⟩ : ∃ W, w.alloc (.cells e.cells 28) = W := ⟨_, rfl⟩
  have HG0 := hid (show g < w.heap.size ∧ b < w.heap.size from ⟨h.blk.lt, h.map.lt⟩)
  have FW := hid (show Fr No w W from hW ▸ (Fr.refl No w).alloc _)
  have HX := hid (show Blk W w.heap.size 28 e.cells from hW ▸ Blk.new w _ _)
  have HE := hid (he.keep FW.out)
  have H := hid (h.keep FW.out)
  have HW := hid hW
  have HBEL := hid (fun (w' : World) (hf : Fr No W w') => below_c (H.out.keep hf).blk (H.out.keep hf).flo e (HE.out.keep hf))
  have HEO := hid (fun (w' : World) (hf : Fr No W w') => HE.out.keep hf)
  have HLE := hid (fun (w' : World) (hf : Fr No W w') => look2 (H.out.keep hf).map (e.ver, e.fn))
  have HWO := hid (wasE_ok H.out (e.ver, e.fn))
  have HROW := hid (fun (p : K2 × Ev) (hp : p ∈ ms) (Y : World) {w2 : World} (hf : Fr (fun x => x = w.heap.size) w2 Y) (hs : True) (h0 : Fr No w w2) => show p.2.ok Y from
    (h.rows p hp).keep (h0.fresh hf (fun x e => by omega)))
  clear hW h he
  unfold RetPut elder
  generalize hbl : belowB fs e = bl at HBEL ⊢
  generalize hgt : (getE (e.ver, e.fn) ms).isSome = some_ at HLE ⊢
  generalize hwe : wasE (e.ver, e.fn) ms = was at HLE HWO ⊢
  clear hbl hgt hwe
  obtain ⟨Aw, cw, Awc, nwc, cwc, Awx, nwx, cwx, hvw, hvwc, hvwx⟩ := Ev.slice HWO.out
  obtain ⟨b0, b1, b2, b3, b4, cdw, cvw, exw, xvw, nsw, nvw⟩ := was
  replace hvw : nvw = .slice Aw nsw.length cw := hvw
  replace hvwc : cvw = .slice Awc nwc cwc := hvwc
  replace hvwx : xvw = .slice Awx nwx cwx := hvwx
  subst hvw hvwc hvwx
  generalize nsw.length = nw at HLE HWO
  obtain ⟨a0, a1, a2, a3, a4, cd, cv, ex, xv, ns, nv⟩ := e
  replace hv : nv = .slice A ns.length c := hv
  replace hvc : cv = .slice Ac nc cc := hvc
  replace hvx : xv = .slice Ax nx cx := hvx
  subst hv hvc hvx
  unfold Ev.cells at HX HW
  dsimp only at HX HW HLE HEO
  unfold Ev.val Ev.cells at HBEL HLE ⊢
  unfold enc2 at HLE
  dsimp only at HBEL HLE ⊢
  have x0 := HX.out.cell 0
  have x1 := HX.out.cell 1
  have x2 := HX.out.cell 2
  have x3 := HX.out.cell 3
  have x4 := HX.out.cell 4
  have x5 := HX.out.cell 5
  have x6 := HX.out.cell 6
  have x7 := HX.out.cell 7
  have xf := HX.out.frozen
  go_enter Try.func11, Try.ntmps11
  go_upto_region 1 with fail
  rw [HW.out]
  go_wp2_with fail
  refine (right_yes H.out.blk).mono ?_
  rintro en wx ⟨rfl, rfl⟩
  go_wp2_with fail
  refine (HBEL.out _ (Fr.refl No _)).mono ?_
  rintro en w1 ⟨rfl, f1⟩
  have F1 := hid f1
  have HX1 := hid (HX.out.keep F1.out (not_no _))
  have H1 := hid (H.out.keep F1.out)
  have FN1 := hid (FW.out.fresh_no F1.out)
  clear f1 x0 x1 x2 x3 x4 x5 x6 x7 xf
  cases bl with
  | true =>
    go_wp2_with fail
    go_ret
    exact ⟨false, rfl, rfl, fun _ => FN1.out, fun h => by cases h⟩
  | false =>
    have x0 := HX1.out.cell 0
    have x3 := HX1.out.cell 3
    go_upto_region 4 with fail
    obtain ⟨V, hV⟩ : ∃ V, w1.alloc (.cells #[.int .i64 a0, .int .i64 a3] 72) = V := ⟨_, rfl⟩
    have HV := hid hV
    have FV1 := hid (show Fr No w1 V from hV ▸ (Fr.refl No w1).alloc _)
    have FV := hid (FN1.out.fresh_no FV1.out)
    have HKY := hid (show Blk V w1.heap.size 72 #[.int .i64 a0, .int .i64 a3] from hV ▸ Blk.new w1 _ _)
    have HX2 := hid (HX1.out.keep FV1.out (not_no _))
    have H2 := hid (H1.out.keep FV1.out)
    rw [HV.out]
    have HLE2 := hid (fun (w' : World) (hf : Fr No V w') => HLE.out w' ((F1.out.fresh_no FV1.out).fresh_no hf))
    have hl0 := HLE2.out _ ((Fr.refl No V).drew)
    have hl1 := HLE2.out _ (((Fr.refl No V).drew).alloc (.cells #[.int .i64 0, .int .i64 0, .int .i64 0, .int .i64 0, .int .i64 0, .slice none 0 0, .slice none 0 0, .slice none 0 0] 28))
    have hl2 := HLE2.out _ (((Fr.refl No V).alloc (.cells #[.int .i64 0, .int .i64 0, .int .i64 0, .int .i64 0, .int .i64 0, .slice none 0 0, .slice none 0 0, .slice none 0 0] 28)).drew)
    have KS := hid (show ∀ w', Fr No V w' → w'.cell? ⟨g, 0, none⟩ = some (.map (some b)) ∧ w'.cell? ⟨w1.heap.size, 0, none⟩ = some (.int .i64 a0) ∧ w'.cell? ⟨w1.heap.size, 1, none⟩ = some (.int .i64 a3) from fun w' hf => by
      have h1 := H2.out.blk.keep hf (not_no _)
      have h2 := HKY.out.keep hf (not_no _)
      exact ⟨h1.cell 0, h2.cell 0, h2.cell 1⟩)
    clear hV x0 x3
    go_region_held_law (fun w' => w'.cell? ⟨g, 0, none⟩ = some (.map (some b)) ∧ w'.cell? ⟨w1.heap.size, 0, none⟩ = some (.int .i64 a0) ∧ w'.cell? ⟨w1.heap.size, 1, none⟩ = some (.int .i64 a3))
      (first
        | exact KS.out _ ((Fr.refl No V).drew)
        | exact KS.out _ (((Fr.refl No V).drew).alloc _)
        | exact KS.out _ (((Fr.refl No V).alloc _).drew)
        | fail)
      (fail)
    all_goals
      (try rw [show (V.alloc (.cells #[.int .i64 b0, .int .i64 b1, .int .i64 b2, .int .i64 b3, .int .i64 b4, .slice Awc nwc cwc, .slice Awx nwx cwx, .slice Aw nw cw] 28)).drew = V.drew.alloc (.cells #[.int .i64 b0, .int .i64 b1, .int .i64 b2, .int .i64 b3, .int .i64 b4, .slice Awc nwc cwc, .slice Awx nwx cwx, .slice Aw nw cw] 28) from rfl])
      have FU0 := ((Fr.refl No V).drew).alloc (.cells #[.int .i64 b0, .int .i64 b1, .int .i64 b2, .int .i64 b3, .int .i64 b4, .slice Awc nwc cwc, .slice Awx nwx cwx, .slice Aw nw cw] 28)
      have HW0 : Blk (V.drew.alloc (.cells #[.int .i64 b0, .int .i64 b1, .int .i64 b2, .int .i64 b3, .int .i64 b4, .slice Awc nwc cwc, .slice Awx nwx cwx, .slice Aw nw cw] 28)) V.heap.size 28 #[.int .i64 b0, .int .i64 b1, .int .i64 b2, .int .i64 b3, .int .i64 b4, .slice Awc nwc cwc, .slice Awx nwx cwx, .slice Aw nw cw] := Blk.new V.drew _ _
      clear hl0 hl1 hl2
      generalize V.drew.alloc (.cells #[.int .i64 b0, .int .i64 b1, .int .i64 b2, .int .i64 b3, .int .i64 b4, .slice Awc nwc cwc, .slice Awx nwx cwx, .slice Aw nw cw] 28) = U at FU0 HW0 ⊢
      have FU := hid FU0
      have HWB := hid HW0
      clear FU0 HW0
      have HX3 := hid (HX2.out.keep FU.out (not_no _))
      have H3 := hid (H2.out.keep FU.out)
      have HK3 := hid (HKY.out.keep FU.out (not_no _))
      have FNU := hid (FV.out.fresh_no FU.out)
      have HEU := hid (HEO.out U ((F1.out.fresh_no FV1.out).fresh_no FU.out))
      have z1 := HWB.out.cell 1
      have y1 := HX3.out.cell 1
      by_cases hel : some_ = true ∧ a1 < b1
      · obtain ⟨rfl, hel2⟩ := hel
        have HEL2 := hid hel2
        go_wp2_with fail
        go_ret
        exact ⟨false, rfl, by simp [HEL2.out], fun _ => FNU.out, fun h => by cases h⟩
      · have HNE := hid (show (some_ && decide (a1 < b1)) = false by
          cases some_ with
          | false => rfl
          | true => simp at hel; simp; omega)
        have hcs : some_ = false ∨ (some_ = true ∧ ¬ a1 < b1) := by
          cases some_ with
          | false => exact .inl rfl
          | true => exact .inr ⟨rfl, fun h => hel ⟨rfl, h⟩⟩
        clear hel
        have y3 := HX3.out.cell 3
        have y4 := HX3.out.cell 4
        have y5 := HX3.out.cell 5
        have y6 := HX3.out.cell 6
        have y7 := HX3.out.cell 7
        rcases hcs with rfl | ⟨rfl, hel2⟩
        all_goals
          go_wp2_with fail
          refine (copied_c U a3 a4 _ _ _ cd ex ns HEU.out.cd HEU.out.cl HEU.out.ex HEU.out.xl HEU.out.nd HEU.out.nl).mono ?_
          rintro en w2 ⟨cv2, xv2, v2, rfl, cp2⟩
          obtain ⟨A2, c2, rfl, _, _⟩ := cp2.nd.slice
          obtain ⟨Ad, cdc, rfl, _, _⟩ := cp2.cd.slice
          obtain ⟨_, _, ⟨Ay, cy, rfl, _⟩, _⟩ := cp2.ex.ex
          have HCP2 := hid cp2
          have F2 := hid cp2.fr
          have HX4 := hid (HX3.out.keep F2.out (not_no _))
          clear cp2 y1 y3 y4 y5 y6 y7 z1
          have y3 := HX4.out.cell 3
          have y4 := HX4.out.cell 4
          have y5 := HX4.out.cell 5
          have y6 := HX4.out.cell 6
          have y7 := HX4.out.cell 7
          have yf := HX4.out.frozen
          go_upto_region 8 with fail
          have HX5 := hid (((((HX4.out.set_ 3 (.int .i64 a3)).set_ 4 (.int .i64 a4)).set_ 5 (.slice Ad cd.length cdc)).set_ 6 (.slice Ay ex.length cy)).set_ 7 (.slice A2 ns.length c2))
          have FY := hid (show Fr (fun x => x = w.heap.size) w2 (((((w2.setCell ⟨w.heap.size, 3, none⟩ (.int .i64 a3)).setCell ⟨w.heap.size, 4, none⟩ (.int .i64 a4)).setCell ⟨w.heap.size, 5, none⟩ (.slice Ad cd.length cdc)).setCell ⟨w.heap.size, 6, none⟩ (.slice Ay ex.length cy)).setCell ⟨w.heap.size, 7, none⟩ (.slice A2 ns.length c2)) from by
            iterate 5 refine Fr.setCell (S := fun x => x = w.heap.size) ?_ (fun _ => rfl) _
            exact Fr.refl _ _)
          clear y3 y4 y5 y6 y7 yf
          generalize (((((w2.setCell ⟨w.heap.size, 3, none⟩ (.int .i64 a3)).setCell ⟨w.heap.size, 4, none⟩ (.int .i64 a4)).setCell ⟨w.heap.size, 5, none⟩ (.slice Ad cd.length cdc)).setCell ⟨w.heap.size, 6, none⟩ (.slice Ay ex.length cy)).setCell ⟨w.heap.size, 7, none⟩ (.slice A2 ns.length c2)) = Y at HX5 FY ⊢
          have HK4 := hid ((HK3.out.keep F2.out (not_no _)).keep FY.out (fun e => by have h1 := HX.out.lt; have h2 := F1.out.size; omega))
          have hgw : g ≠ w.heap.size := fun e => by have := HG0.out.1; omega
          have hbw : b ≠ w.heap.size := fun e => by have := HG0.out.2; omega
          have H4 := hid (show IsC Y g b fb ms fs from by
            have h2 := H3.out.keep F2.out
            have hfb : fb ≠ w.heap.size := fun e => (HX4.out.not_mapK h2.flo) e.symm
            exact ⟨h2.blk.keep FY.out hgw, h2.map.keep FY.out hbw, h2.flo.keep FY.out hfb, h2.two, fun p hp => HROW.out p hp Y FY.out trivial (FNU.out.fresh_no F2.out)⟩)
          have HCP5 := hid (HCP2.out.at_.keep FY.out (fun x e => by have h2 := HX3.out.lt; omega))
          have HBU := hid (show b < U.heap.size from H3.out.map.lt)
          have hrunE := run_putK (P := Try.prog) (T := 64) (K := 72) (E := 28) Try.underlying64 keyOK2 (H4.out.map.keep ((Fr.refl No Y).drew) (not_no _)) (a0, a3) (Ev.mk a0 a1 a2 a3 a4 cd (.slice Ad cd.length cdc) ex (.slice Ay ex.length cy) ns (.slice A2 ns.length c2)).val
          obtain ⟨w10, hrun, M10, F10⟩ := hrunE
          replace hrun : (Instr.mapUpdate 64 (.map (some b)) (.agg #[.int .i64 a0, .int .i64 a3]) (.agg #[.int .i64 a0, .int .i64 a1, .int .i64 a2, .int .i64 a3, .int .i64 a4, .slice Ad cd.length cdc, .slice Ay ex.length cy, .slice A2 ns.length c2])).run Try.prog Y.drew = .ok () w10 := hrun
          have HM10 := hid M10
          have HK10 := hid ((((Fr.refl No Y).drew).mono (S' := fun x => x = b) (fun x _ h => absurd h (not_no x))).trans F10 (fun x _ h => h))
          clear M10 F10
          have KS3 := hid (show ∀ w', Fr (fun x => x = b) Y w' → w'.cell? ⟨g, 0, none⟩ = some (.map (some b)) ∧ w'.cell? ⟨w1.heap.size, 0, none⟩ = some (.int .i64 a0) ∧ w'.cell? ⟨w1.heap.size, 1, none⟩ = some (.int .i64 a3) ∧ w'.cell? ⟨w.heap.size, 0, none⟩ = some (.int .i64 a0) ∧ w'.cell? ⟨w.heap.size, 1, none⟩ = some (.int .i64 a1) ∧ w'.cell? ⟨w.heap.size, 2, none⟩ = some (.int .i64 a2) ∧ w'.cell? ⟨w.heap.size, 3, none⟩ = some (.int .i64 a3) ∧ w'.cell? ⟨w.heap.size, 4, none⟩ = some (.int .i64 a4) ∧ w'.cell? ⟨w.heap.size, 5, none⟩ = some (.slice Ad cd.length cdc) ∧ w'.cell? ⟨w.heap.size, 6, none⟩ = some (.slice Ay ex.length cy) ∧ w'.cell? ⟨w.heap.size, 7, none⟩ = some (.slice A2 ns.length c2) from fun w' hf => by
            have h1 := H4.out.blk.keep hf (fun e => (H4.out.blk.not_mapK H4.out.map) e)
            have h2 := HK4.out.keep hf (fun e => (HK4.out.not_mapK H4.out.map) e)
            have h3 := HX5.out.keep hf (fun e => (HX5.out.not_mapK H4.out.map) e)
            exact ⟨h1.cell 0, h2.cell 0, h2.cell 1, h3.cell 0, h3.cell 1, h3.cell 2, h3.cell 3, h3.cell 4, h3.cell 5, h3.cell 6, h3.cell 7⟩)
          go_region_held_law (fun w' => w'.cell? ⟨g, 0, none⟩ = some (.map (some b)) ∧ w'.cell? ⟨w1.heap.size, 0, none⟩ = some (.int .i64 a0) ∧ w'.cell? ⟨w1.heap.size, 1, none⟩ = some (.int .i64 a3) ∧ w'.cell? ⟨w.heap.size, 0, none⟩ = some (.int .i64 a0) ∧ w'.cell? ⟨w.heap.size, 1, none⟩ = some (.int .i64 a1) ∧ w'.cell? ⟨w.heap.size, 2, none⟩ = some (.int .i64 a2) ∧ w'.cell? ⟨w.heap.size, 3, none⟩ = some (.int .i64 a3) ∧ w'.cell? ⟨w.heap.size, 4, none⟩ = some (.int .i64 a4) ∧ w'.cell? ⟨w.heap.size, 5, none⟩ = some (.slice Ad cd.length cdc) ∧ w'.cell? ⟨w.heap.size, 6, none⟩ = some (.slice Ay ex.length cy) ∧ w'.cell? ⟨w.heap.size, 7, none⟩ = some (.slice A2 ns.length c2))
            (first
              | exact KS3.out _ ((Fr.refl _ Y).drew)
              | exact KS3.out _ HK10.out
              | fail)
            (fail)
          all_goals
            go_wp2_with fail
            go_ret
            have HCP6 := hid (HCP5.out.keep HK10.out (fun x e => by rw [e]; exact HBU.out))
            refine ⟨true, rfl, (by rw [HNE.out]; rfl), (fun h => by cases h), fun _ => ⟨.slice Ad cd.length cdc, .slice Ay ex.length cy, .slice A2 ns.length c2, ?_, HCP6.out.older FNU.out.size, ?_⟩⟩
            · have HMV := HM10.out
              rw [put_valsE] at HMV
              have hfb : fb ≠ b := fun e => H4.out.two e.symm
              refine ⟨H4.out.blk.keep HK10.out (fun e => (H4.out.blk.not_mapK H4.out.map) e), HMV, H4.out.flo.keep HK10.out hfb, H4.out.two, fun p hp => ?_⟩
              rcases mem_putE hp with rfl | ⟨hp, _⟩
              · exact CopyAt.ok (e := ⟨a0, a1, a2, a3, a4, cd, .slice Ad cd.length cdc, ex, .slice Ay ex.length cy, ns, .slice A2 ns.length c2⟩) HCP6.out HEU.out.nl HEU.out.cl HEU.out.xl
              · exact (H4.out.rows p hp).keep_ HK10.out (cells_not_map H4.out.map)
            · exact ((((FNU.out.fresh_no F2.out).fresh FY.out (fun x e => by omega)).mono (S' := fun x => x = b) (fun x _ h => absurd h (not_no x))).trans HK10.out (fun x _ h => h))
end Go.Proofs.Ytfmoagpfgkokcaa
