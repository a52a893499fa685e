import Derived.Test.YtfmoagpfgkokcaaFloorsB
/-! CacheFloors: a box that is filled; what is told. -/
namespace Go.Proofs.Ytfmoagpfgkokcaa
open Go.RowKit
set_option linter.unusedVariables false
set_option linter.unusedSimpArgs false

abbrev put8 (w : World) (b : Nat) (v0 v1 v2 v3 v4 v5 v6 v7 : Value) : World :=
  (((((((w.setCell ⟨b, 0, none⟩ v0).setCell ⟨b, 1, none⟩ v1).setCell ⟨b, 2, none⟩ v2).setCell ⟨b, 3, none⟩ v3).setCell ⟨b, 4, none⟩ v4).setCell ⟨b, 5, none⟩ v5).setCell ⟨b, 6, none⟩ v6).setCell ⟨b, 7, none⟩ v7
theorem Fr.fresh8 {w0 w : World} {b : Nat} (h : Fr No w0 w) (hb : w0.heap.size ≤ b) (v0 v1 v2 v3 v4 v5 v6 v7 : Value) : Fr No w0 (put8 w b v0 v1 v2 v3 v4 v5 v6 v7) := by
  unfold put8
  iterate 8 refine Fr.setCell (S := No) ?_ (fun h' => absurd (show b < w0.heap.size from h') (by omega)) _
  exact h
theorem Fr.one8 (w : World) (b : Nat) (v0 v1 v2 v3 v4 v5 v6 v7 : Value) : Fr (fun x => x = b) w (put8 w b v0 v1 v2 v3 v4 v5 v6 v7) := by
  have h0 : Fr (fun x => x = b) w w := Fr.refl _ _
  exact ((((((((h0.setCell (p := ⟨b, 0, none⟩) (fun _ => rfl) v0).setCell (p := ⟨b, 1, none⟩) (fun _ => rfl) v1).setCell (p := ⟨b, 2, none⟩) (fun _ => rfl) v2).setCell (p := ⟨b, 3, none⟩) (fun _ => rfl) v3).setCell (p := ⟨b, 4, none⟩) (fun _ => rfl) v4).setCell (p := ⟨b, 5, none⟩) (fun _ => rfl) v5).setCell (p := ⟨b, 6, none⟩) (fun _ => rfl) v6).setCell (p := ⟨b, 7, none⟩) (fun _ => rfl) v7)
theorem Blk.put8_ {w : World} {b : Nat} {t : TypeId} {u0 u1 u2 u3 u4 u5 u6 u7 : Value} (h : Blk w b t #[u0, u1, u2, u3, u4, u5, u6, u7]) (v0 v1 v2 v3 v4 v5 v6 v7 : Value) : Blk (put8 w b v0 v1 v2 v3 v4 v5 v6 v7) b t #[v0, v1, v2, v3, v4, v5, v6, v7] := by
  have this := (((((((h.set_ 0 v0).set_ 1 v1).set_ 2 v2).set_ 3 v3).set_ 4 v4).set_ 5 v5).set_ 6 v6).set_ 7 v7
  simp only [List.setIfInBounds_toArray, List.set_cons_zero, List.set_cons_succ] at this
  exact this
theorem Blk.new_ (w : World) (t : TypeId) (cs : Array Value) {n : Nat} (h : n = w.heap.size) : Blk (w.alloc (.cells cs t)) n t cs := by subst h; exact Blk.new w t cs
theorem Ev.ok.box {w w' : World} {b : Nat} {cs : Array Value} {e : Ev} (h : e.ok w) (hb : Blk w b 28 cs) (hf : Fr (fun x => x = b) w w') : e.ok w' :=
  ⟨Rd.keep h.1 hf (fun k hk e => by
    obtain ⟨l, cs', hb'⟩ := h.2.2 k hk
    exact hb'.ne_ hb (by decide) e), h.2.1, fun x hx => by
    obtain ⟨l, cs', hb'⟩ := h.2.2 x hx
    exact ⟨Nat.lt_of_lt_of_le l hf.size, cs', hb'.keep hf (hb'.ne_ hb (by decide))⟩⟩
/-- an entry with one need, in a box of its own -/
def Boxed8 (w : World) (xb : Nat) (ver ep till fn : Int) (n : Int) (nv : Value) : Prop := Blk w xb 28 #[.int .i64 ver, .int .i64 ep, .int .i64 till, .int .i64 fn, .int .i64 1, .slice none 0 0, .slice none 0 0, nv] ∧ (Ev.mk ver ep till fn 1 [n] nv).ok w
theorem boxed_set {w0 wr w5 : World} {g b fb xb : Nat} {v : Value} {L : List Ev} {ms : List (K2 × Ev)} {fs : List (Int × Int)} (h : Fl w0 wr g b fb v L ms fs) (hf : Fr No wr w5) {ver ep till fn n : Int} {nv : Value} (ok : (Ev.mk ver ep till fn 1 [n] nv).ok w5)
    {u0 u1 u2 u3 u4 u5 u6 u7 : Value} (hb : Blk w5 xb 28 #[u0, u1, u2, u3, u4, u5, u6, u7]) (hx : wr.heap.size ≤ xb) :
    Fl w0 (put8 w5 xb (.int .i64 ver) (.int .i64 ep) (.int .i64 till) (.int .i64 fn) (.int .i64 1) (.slice none 0 0) (.slice none 0 0) nv) g b fb v L ms fs ∧ Boxed8 (put8 w5 xb (.int .i64 ver) (.int .i64 ep) (.int .i64 till) (.int .i64 fn) (.int .i64 1) (.slice none 0 0) (.slice none 0 0) nv) xb ver ep till fn n nv :=
  ⟨h.keep (hf.fresh8 hx _ _ _ _ _ _ _ _), Blk.put8_ hb _ _ _ _ _ _ _ _, ok.box hb (Fr.one8 _ _ _ _ _ _ _ _ _ _)⟩
theorem boxed_new {w0 wr w5 : World} {g b fb : Nat} {v : Value} {L : List Ev} {ms : List (K2 × Ev)} {fs : List (Int × Int)} (h : Fl w0 wr g b fb v L ms fs) (hf : Fr No wr w5) {ver ep till fn n : Int} {nv : Value} (ok : (Ev.mk ver ep till fn 1 [n] nv).ok w5) :
    Fl w0 (w5.alloc (.cells #[.int .i64 ver, .int .i64 ep, .int .i64 till, .int .i64 fn, .int .i64 1, .slice none 0 0, .slice none 0 0, nv] 28)) g b fb v L ms fs ∧ Boxed8 (w5.alloc (.cells #[.int .i64 ver, .int .i64 ep, .int .i64 till, .int .i64 fn, .int .i64 1, .slice none 0 0, .slice none 0 0, nv] 28)) w5.heap.size ver ep till fn n nv :=
  ⟨h.keep (hf.alloc _), Blk.new _ _ _, ok.keep ((Fr.refl No w5).alloc _)⟩
theorem more_elder {L : List Ev} {ms : List (K2 × Ev)} (h : Holds_ L (fun _ => true) ms) (hms : ms.length ≤ L.length) (i : Nat) (hi : L.length = i) (ep till fn rg : Int) (ns : List Int) (nv nv' : Value) :
    elder ⟨i, ep, till, fn, rg, ns, nv⟩ ms = false ∧ Holds_ (L ++ [⟨i, ep, till, fn, rg, ns, nv⟩]) (fun _ => true) (putE ((i : Int), fn) ⟨i, ep, till, fn, rg, ns, nv'⟩ ms) := by
  subst hi
  obtain ⟨h1, h2⟩ := h.more ⟨(L.length : Nat), ep, till, fn, rg, ns, nv⟩ ⟨(L.length : Nat), ep, till, fn, rg, ns, nv'⟩ ⟨rfl, rfl, rfl, rfl, rfl, rfl⟩ hms
  refine ⟨?_, h1⟩
  unfold elder
  dsimp only at h2 ⊢
  rw [h2]
  rfl
/-- Get, its numbers left open -/
theorem get_yes_ {w : World} {g b fb : Nat} {ms : List (K2 × Ev)} {fs : List (Int × Int)} (h : IsC w g b fb ms fs) (ver fn tick : Int) (hh : has (ver, fn) tick ms = true) :
    Calls Try.prog 12 #[.pointer (some ⟨g, 0, none⟩), .int .i64 ver, .int .i64 fn, .int .i64 tick] w fun en w' => ∃ (x y : Int) (A : Option Addr) (m c : Nat), en = .returned (.tuple #[.agg #[.int .i64 x, .int .i64 y, .slice none 0 0, .slice none 0 0, .slice A m c], .bool true]) ∧ Fr No w w' :=
  (get_yes h ver fn tick hh).mono (fun en w' hq => by
    obtain ⟨A, c, he, hf⟩ := hq
    exact ⟨_, _, A, _, c, he, hf⟩)
theorem need_at {w : World} {ver ep till fn rg n : Int} {nv : Value} (h : (Ev.mk ver ep till fn rg [n] nv).ok w) : ∃ (nb no c : Nat), nv = .slice (some ⟨nb, no, none⟩) 1 c ∧ 1 ≤ c ∧ nb < w.heap.size ∧ w.cell? ⟨nb, no, none⟩ = some (.int .i64 n) := by
  obtain ⟨A, c, hv, hc, hl, hr⟩ := h.1
  obtain ⟨nb, no, rfl, hb, hx⟩ := hr (by simp)
  refine ⟨nb, no, c, hv, hc, hb, ?_⟩
  have := hx 0 (.int .i64 n) rfl
  simpa using this
end Go.Proofs.Ytfmoagpfgkokcaa
