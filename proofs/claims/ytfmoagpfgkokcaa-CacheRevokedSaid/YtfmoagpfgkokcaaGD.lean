import Derived.Test.YtfmoagpfgkokcaaGC
/-! Clones; exits in memory of their own. -/
namespace Go.Proofs.Ytfmoagpfgkokcaa
open Go.RowKit
set_option linter.unusedVariables false
set_option linter.unusedSimpArgs false

def bcells (l : List BackM) : List Value := rows BackM.cells l
def BackM.flat (m : BackM) : Prop := (∃ A n c, m.vv = .slice A n c) ∧ ∃ A n c, m.sv = .slice A n c
theorem BackM.ok.flat {w : World} {m : BackM} (h : m.ok w) : m.flat := by
  obtain ⟨A, c, hv, _⟩ := h.1
  obtain ⟨A2, c2, hv2, _⟩ := h.2.1
  exact ⟨⟨A, _, c, hv⟩, ⟨A2, _, c2, hv2⟩⟩
theorem bcells_one {w : World} {l : List BackM} (h : ∀ m ∈ l, m.ok w) : ∀ u ∈ bcells l, u.oneCell' = true := by
  intro u hu
  unfold bcells rows at hu
  obtain ⟨x, hx, hux⟩ := List.mem_flatten.1 hu
  obtain ⟨m, hm, rfl⟩ := List.mem_map.1 hx
  obtain ⟨⟨A, n, c, e1⟩, A2, n2, c2, e2⟩ := (h m hm).flat
  unfold BackM.cells at hux
  simp only [List.mem_cons, List.not_mem_nil, or_false] at hux
  rcases hux with rfl | rfl | rfl | rfl
  · rfl
  · rfl
  · rw [e1]; rfl
  · rw [e2]; rfl
set_option maxRecDepth 100000 in
set_option maxHeartbeats 400000 in
theorem cloneS_c (w : World) (v : Value) (l : List SpecV) (hv : Rd 7 w v l.length (scells l)) (hl : l.length * 56 ≤ 140737488355328) :
    Calls Try.prog 37 #[v] w fun e w' => ∃ v', e = .returned v' ∧ Own 60 7 w' v' l.length (scells l) ∧ Fr No w w' ∧ ∀ x, Of v' x → w.heap.size ≤ x := by
  have kn := fun (w : World) (a : Option Addr) (n c : Nat) => Lib.run_eql_slice_nil (P := Try.prog) w 22 60 a n c 0 0 Try.underlying22
  have HV := hid (Rd.keep hv ((Fr.refl No w).alloc (.cells #[] 60)) (fun k _ => not_no k))
  obtain ⟨A, c, rfl, hc, hlen, hr⟩ := hv
  cases A with
  | none =>
    have h0 : l.length = 0 := by
      rcases Nat.eq_zero_or_pos l.length with h | h
      · exact h
      · obtain ⟨b, off, hA, _⟩ := hr h; cases hA
    have hl0 : l = [] := List.eq_nil_of_length_eq_zero h0
    subst hl0
    go_enter Try.func37, Try.ntmps37
    go_wp2_with fail
    go_ret
    exact ⟨_, rfl, Own.nil _ _ _, Fr.refl _ _, fun x hx => absurd hx Of_none⟩
  | some a =>
    have HO := hid (show Own 60 7 (w.alloc (.cells #[] 60)) (.slice (some ⟨w.heap.size, 0, none⟩) 0 0) 0 [] from Own.new w _ #[] 0 0 [] (by omega) (by omega) (by simp) (by simp))
    have HL := hid hl
    clear hlen hr hl hc
    go_enter Try.func37, Try.ntmps37
    go_wp2_with (at_builtin; refine wpl_app _ rfl (.tmp 5) (.tmp 6) _ rfl 60 (.agg #[.int .u8 0, .int .i64 0, .int .i64 0, .int .i64 0, .int .i64 0, .int .i64 0, .int .i64 0]) 7 56 Try.underlying22 (by kernel_rfl) (by rfl) _ 0 [] rfl HO.out _ l.length (scells l) rfl HV.out (scells_one l) (by have := HL.out; simp only [maxLen]; omega) (by have := HL.out; omega) ?_; intro v1 w1 O1 F1 G1)
    go_ret
    refine ⟨v1, rfl, by simpa using O1, ((Fr.refl No w).alloc _).fresh F1 (fun k hk => by have := Of_some.1 hk; dsimp only at this; omega), fun x hx => ?_⟩
    rcases G1 x hx with h | h
    · have := Of_some.1 h; dsimp only at this; omega
    · rw [h]; exact ((Fr.refl No w).alloc _).size
set_option maxRecDepth 100000 in
set_option maxHeartbeats 400000 in
theorem cloneI_c (w : World) (v : Value) (l : List Int) (hv : Rd 1 w v l.length (intsV l)) (hl : l.length * 8 ≤ 140737488355328) :
    Calls Try.prog 40 #[v] w fun e w' => ∃ v', e = .returned v' ∧ Own 3 1 w' v' l.length (intsV l) ∧ Fr No w w' ∧ ∀ x, Of v' x → w.heap.size ≤ x := by
  have kn := fun (w : World) (a : Option Addr) (n c : Nat) => Lib.run_eql_slice_nil (P := Try.prog) w 70 3 a n c 0 0 Try.underlying70
  have HV := hid (Rd.keep hv ((Fr.refl No w).alloc (.cells #[] 3)) (fun k _ => not_no k))
  obtain ⟨A, c, rfl, hc, hlen, hr⟩ := hv
  cases A with
  | none =>
    have h0 : l.length = 0 := by
      rcases Nat.eq_zero_or_pos l.length with h | h
      · exact h
      · obtain ⟨b, off, hA, _⟩ := hr h; cases hA
    have hl0 : l = [] := List.eq_nil_of_length_eq_zero h0
    subst hl0
    go_enter Try.func40, Try.ntmps40
    go_wp2_with fail
    go_ret
    exact ⟨_, rfl, Own.nil _ _ _, Fr.refl _ _, fun x hx => absurd hx Of_none⟩
  | some a =>
    have HO := hid (show Own 3 1 (w.alloc (.cells #[] 3)) (.slice (some ⟨w.heap.size, 0, none⟩) 0 0) 0 [] from Own.new w _ #[] 0 0 [] (by omega) (by omega) (by simp) (by simp))
    have HL := hid hl
    clear hlen hr hl hc
    go_enter Try.func40, Try.ntmps40
    go_wp2_with (at_builtin; refine wpl_app _ rfl (.tmp 5) (.tmp 6) _ rfl 3 (.int .i64 0) 1 8 Try.underlying70 (by kernel_rfl) (by rfl) _ 0 [] rfl HO.out _ l.length (intsV l) rfl HV.out (intsV_one l) (by have := HL.out; simp only [maxLen]; omega) (by have := HL.out; omega) ?_; intro v1 w1 O1 F1 G1)
    go_ret
    refine ⟨v1, rfl, by simpa using O1, ((Fr.refl No w).alloc _).fresh F1 (fun k hk => by have := Of_some.1 hk; dsimp only at this; omega), fun x hx => ?_⟩
    rcases G1 x hx with h | h
    · have := Of_some.1 h; dsimp only at this; omega
    · rw [h]; exact ((Fr.refl No w).alloc _).size
set_option maxRecDepth 100000 in
set_option maxHeartbeats 400000 in
theorem cloneB_c (w : World) (v : Value) (l : List BackM) (hv : Rd 4 w v l.length (bcells l)) (hl : l.length * 64 ≤ 140737488355328) (hok : ∀ m ∈ l, m.ok w) :
    Calls Try.prog 39 #[v] w fun e w' => ∃ v', e = .returned v' ∧ Own 81 4 w' v' l.length (bcells l) ∧ Fr No w w' ∧ ∀ x, Of v' x → w.heap.size ≤ x := by
  have kn := fun (w : World) (a : Option Addr) (n c : Nat) => Lib.run_eql_slice_nil (P := Try.prog) w 79 81 a n c 0 0 Try.underlying79
  have HV := hid (Rd.keep hv ((Fr.refl No w).alloc (.cells #[] 81)) (fun k _ => not_no k))
  obtain ⟨A, c, rfl, hc, hlen, hr⟩ := hv
  cases A with
  | none =>
    have h0 : l.length = 0 := by
      rcases Nat.eq_zero_or_pos l.length with h | h
      · exact h
      · obtain ⟨b, off, hA, _⟩ := hr h; cases hA
    have hl0 : l = [] := List.eq_nil_of_length_eq_zero h0
    subst hl0
    go_enter Try.func39, Try.ntmps39
    go_wp2_with fail
    go_ret
    exact ⟨_, rfl, Own.nil _ _ _, Fr.refl _ _, fun x hx => absurd hx Of_none⟩
  | some a =>
    have HO := hid (show Own 81 4 (w.alloc (.cells #[] 81)) (.slice (some ⟨w.heap.size, 0, none⟩) 0 0) 0 [] from Own.new w _ #[] 0 0 [] (by omega) (by omega) (by simp) (by simp))
    have HL := hid hl
    clear hlen hr hl hc
    go_enter Try.func39, Try.ntmps39
    go_wp2_with (at_builtin; refine wpl_app _ rfl (.tmp 5) (.tmp 6) _ rfl 81 (.agg #[.int .i64 0, .int .i64 0, .slice none 0 0, .slice none 0 0]) 4 64 Try.underlying79 (by kernel_rfl) (by rfl) _ 0 [] rfl HO.out _ l.length (bcells l) rfl HV.out (bcells_one hok) (by have := HL.out; simp only [maxLen]; omega) (by have := HL.out; omega) ?_; intro v1 w1 O1 F1 G1)
    go_ret
    refine ⟨v1, rfl, by simpa using O1, ((Fr.refl No w).alloc _).fresh F1 (fun k hk => by have := Of_some.1 hk; dsimp only at this; omega), fun x hx => ?_⟩
    rcases G1 x hx with h | h
    · have := Of_some.1 h; dsimp only at this; omega
    · rw [h]; exact ((Fr.refl No w).alloc _).size
/-! ## what is read stands in blocks of a kind -/
def NewV (P : Nat → Prop) (v : Value) : Prop := ∀ x, Of v x → P x
def From (B : Nat) : Nat → Prop := fun x => B ≤ x
def Btw (w5 w : World) : Nat → Prop := fun x => w5.heap.size ≤ x ∧ x < w.heap.size
theorem NewV.mono {P P' : Nat → Prop} {v : Value} (h : NewV P v) (hp : ∀ x, P x → P' x) : NewV P' v := fun x hx => hp x (h x hx)
theorem NewV.no {P S : Nat → Prop} {v : Value} (h : NewV P v) (hS : ∀ x, P x → ¬ S x) : ∀ k, v.ownBlock = some k → ¬ S k := fun k hk => hS k (h k hk)
structure RdLB (P : Nat → Prop) (w : World) (v : Value) (l : List BackV) : Prop where
  ex : ∃ ms : List BackM, ms.map (·.v) = l ∧ Rd 4 w v l.length (rows BackM.cells ms) ∧ ∀ m ∈ ms, m.ok w ∧ NewV P m.vv ∧ NewV P m.sv
  new : NewV P v
section
variable {P P' S : Nat → Prop} {w w' : World} {v : Value} {l : List BackV} {xs : List (List BackV)}
theorem RdLB.rd (h : RdLB P w v l) : RdL w v l := by
  obtain ⟨ms, h1, h2, h3⟩ := h.ex
  exact ⟨ms, h1, h2, fun m hm => (h3 m hm).1⟩
theorem RdLB.keep (h : RdLB P w v l) (hf : Fr S w w') (hS : ∀ x, P x → ¬ S x) : RdLB P w' v l := by
  obtain ⟨ms, h1, h2, h3⟩ := h.ex
  exact ⟨⟨ms, h1, Rd.keep h2 hf (h.new.no hS), fun m hm => by
    obtain ⟨⟨o1, o2, o3⟩, n1, n2⟩ := h3 m hm
    exact ⟨⟨Rd.keep o1 hf (n1.no hS), Rd.keep o2 hf (n2.no hS), o3⟩, n1, n2⟩⟩, h.new⟩
theorem RdLB.older (h : RdLB P w v l) (hp : ∀ x, P x → P' x) : RdLB P' w v l := by
  obtain ⟨ms, h1, h2, h3⟩ := h.ex
  exact ⟨⟨ms, h1, h2, fun m hm => ⟨(h3 m hm).1, (h3 m hm).2.1.mono hp, (h3 m hm).2.2.mono hp⟩⟩, h.new.mono hp⟩
structure RdXB (P : Nat → Prop) (w : World) (v : Value) (xs : List (List BackV)) : Prop where
  ex : ∃ es : List ExM, es.map (·.l) = xs ∧ Rd 1 w v xs.length (es.map (·.v)) ∧ ∀ e ∈ es, RdLB P w e.v e.l ∧ e.l.length * 64 ≤ 140737488355328
  new : NewV P v
theorem RdXB.rd (h : RdXB P w v xs) : RdX w v xs := by
  obtain ⟨es, h1, h2, h3⟩ := h.ex
  exact ⟨es, h1, h2, fun e he => ⟨(h3 e he).1.rd, (h3 e he).2⟩⟩
theorem RdXB.keep (h : RdXB P w v xs) (hf : Fr S w w') (hS : ∀ x, P x → ¬ S x) : RdXB P w' v xs := by
  obtain ⟨es, h1, h2, h3⟩ := h.ex
  exact ⟨⟨es, h1, Rd.keep h2 hf (h.new.no hS), fun e he => ⟨(h3 e he).1.keep hf hS, (h3 e he).2⟩⟩, h.new⟩
theorem RdXB.older (h : RdXB P w v xs) (hp : ∀ x, P x → P' x) : RdXB P' w v xs := by
  obtain ⟨es, h1, h2, h3⟩ := h.ex
  exact ⟨⟨es, h1, h2, fun e he => ⟨(h3 e he).1.older hp, (h3 e he).2⟩⟩, h.new.mono hp⟩
end
/-- a copy: each part in memory of its own -/
structure CopyOf (w0 w : World) (code : List SpecV) (exits : List (List BackV)) (needs : List (Int × Int)) (cv xv nv : Value) : Prop where
  cd : Own 60 7 w cv code.length (scells code)
  nd : OwnN w nv needs
  ex : RdXB (From w0.heap.size) w xv exits
  ncd : NewV (From w0.heap.size) cv
  nnd : NewV (From w0.heap.size) nv
  fr : Fr No w0 w
theorem CopyOf.keep {w0 w w' : World} {S : Nat → Prop} {code : List SpecV} {exits : List (List BackV)} {needs : List (Int × Int)} {cv xv nv : Value} (h : CopyOf w0 w code exits needs cv xv nv) (hf : Fr S w w') (hS : ∀ x, S x → x < w0.heap.size) (h0 : Fr No w0 w') : CopyOf w0 w' code exits needs cv xv nv :=
  have hs : ∀ x, From w0.heap.size x → ¬ S x := fun x hx hs => by have h1 : w0.heap.size ≤ x := hx; have h2 := hS x hs; omega
  ⟨h.cd.keep hf (h.ncd.no hs), h.nd.keep hf (h.nnd.no hs), h.ex.keep hf hs, h.ncd, h.nnd, h0⟩
end Go.Proofs.Ytfmoagpfgkokcaa
