import Derived.Test.YtkglndlmjleomaaBoxK
import Derived.Test.YtkglndlmjleomaaRowKit
/-! Put and Take, one contract each; two boxes; numbers that came in. -/
namespace Go.Proofs.Ytkglndlmjleomaa
open Go.RowKit
set_option linter.unusedVariables false
set_option linter.unusedSimpArgs false

theorem RdI.at_ {w : World} {A : Option Addr} {zs : List Int} {c k : Nat} (h : RdI w (.slice A zs.length c) zs) (hk : k < zs.length) :
    ∃ (b off : Nat) (z : Int), A = some ⟨b, off, none⟩ ∧ w.cell? ⟨b, off + k, none⟩ = some (.int .i64 z) ∧ zs[k]? = some z ∧ -9223372036854775808 ≤ z ∧ z ≤ 9223372036854775807 := by
  obtain ⟨b, off, c', u, hv, hc, hu, hcell⟩ := h.1.at_ hk
  injection hv with hA _ _
  have hz : zs[k]? = some zs[k] := List.getElem?_eq_getElem hk
  rw [List.getElem?_map, hz] at hu
  have hu2 : Value.int .i64 zs[k] = u := Option.some.inj hu
  rw [← hu2] at hcell
  exact ⟨b, off, zs[k], hA, hcell, hz, h.2 _ (List.getElem_mem hk)⟩
theorem RdI.keep {w w' : World} {v : Value} {zs : List Int} (h : RdI w v zs) (hf : Fr No w w') : RdI w' v zs := ⟨h.1.keep hf (fun k _ => not_no k), h.2⟩
/-- two boxes, new since w0 -/
structure Two (w0 w : World) (g g1 : Nat) (n : Int) (f f1 : Int → List MailA) (S S1 : Nat → Prop) : Prop where
  a : Bx w g n f S
  b : Bx w g1 n f1 S1
  fr : Fr No w0 w
  na : ∀ x, S x → w0.heap.size ≤ x
  nb : ∀ x, S1 x → w0.heap.size ≤ x
  ap : ∀ x, S x → ¬ S1 x
section
variable {w0 w w' : World} {g g1 : Nat} {n : Int} {f f' f1 : Int → List MailA} {S S' S1 : Nat → Prop}
theorem Two.keep (h : Two w0 w g g1 n f f1 S S1) (hf : Fr No w w') : Two w0 w' g g1 n f f1 S S1 := ⟨h.a.keep0 hf, h.b.keep0 hf, h.fr.fresh_no hf, h.na, h.nb, h.ap⟩
theorem Two.toA (h : Two w0 w g g1 n f f1 S S1) (hb : Bx w' g n f' S') (hf : Fr S w w') (hm : More w S S') : Two w0 w' g g1 n f' f1 S' S1 :=
  ⟨hb, h.b.keep hf (fun x hx hs => h.ap x hs hx), h.fr.fresh hf h.na, fun x hx => (hm x hx).elim (h.na x) (fun hx => Nat.le_trans h.fr.size hx), h.nb, fun x hx h1 => (hm x hx).elim (fun hx => h.ap x hx h1) (fun hx => by have := h.b.lt x h1; omega)⟩
theorem Two.swap (h : Two w0 w g g1 n f f1 S S1) : Two w0 w g1 g n f1 f S1 S := ⟨h.b, h.a, h.fr, h.nb, h.na, fun x hx hs => h.ap x hs hx⟩
end
theorem setF_eq (f : Int → List MailA) (k : Int) (l : List MailA) : setF f k l k = l := if_pos rfl
theorem setF_ne (f : Int → List MailA) {k k' : Int} (l : List MailA) (h : k' ≠ k) : setF f k l k' = f k' := if_neg h
theorem addF_eq (f : Int → List MailA) (m : MailA) {k : Int} (h : k = m.to) : addF f m k = f k ++ [m] := by subst h; exact if_pos rfl
theorem addF_ne (f : Int → List MailA) (m : MailA) {k : Int} (h : k ≠ m.to) : addF f m k = f k := if_neg h
theorem setF_self (f : Int → List MailA) (k : Int) : setF f k (f k) = f := by
  funext k'
  unfold setF
  split
  · rename_i e; rw [e]
  · rfl
def m00 : MailA := ⟨0, 0, 0, 0, ⟨#[]⟩⟩
/-- what Take answers, and what it leaves -/
def takeL : List MailA → MailA × Bool × List MailA
  | [] => (m00, false, [])
  | m :: l => (m, true, l)
/-- what Put answers, and what it leaves -/
def putC (n : Int) (l : List MailA) : Int := if (l.length : Int) < n then 0 else 141
def putL (n : Int) (l : List MailA) (m : MailA) : List MailA := if (l.length : Int) < n then l ++ [m] else l
def Bound (n : Int) (f : Int → List MailA) : Prop := ∀ k, ((f k).length : Int) ≤ n
theorem Bound.take {n : Int} {f : Int → List MailA} (h : Bound n f) (k : Int) : Bound n (setF f k (takeL (f k)).2.2) := fun k' => by
  by_cases e : k' = k
  · subst e
    have := h k'
    rw [setF_eq]
    cases hf : f k' with
    | nil => simpa [takeL, hf] using this
    | cons m l => rw [hf, List.length_cons] at this; show (l.length : Int) ≤ n; omega
  · rw [setF_ne f _ e]; exact h k'
theorem Bound.put {n : Int} {f : Int → List MailA} (h : Bound n f) (k : Int) (m : MailA) : Bound n (setF f k (putL n (f k) m)) := fun k' => by
  by_cases e : k' = k
  · subst e
    have := h k'
    rw [setF_eq]
    unfold putL
    split
    · rw [List.length_append]; simp; omega
    · exact this
  · rw [setF_ne f _ e]; exact h k'
section
variable {w : World} {g : Nat} {n : Int} {f : Int → List MailA} {S : Nat → Prop}
theorem take_any (h : Bx w g n f S) (hb : Bound n f) (hn : n ≤ 64) (to : Int) :
    Calls Try.prog 11 #[.pointer (some ⟨g, 0, none⟩), .int .i64 to] w fun e w' => ∃ S', e = .returned (.tuple #[.agg (takeL (f to)).1.cells, .bool (takeL (f to)).2.1]) ∧ Bx w' g n (setF f to (takeL (f to)).2.2) S' ∧ Fr S w w' ∧ More w S S' := by
  cases hf : f to with
  | nil =>
    refine (none_b h to hf).mono ?_
    rintro e w' ⟨rfl, hfr⟩
    refine ⟨S, rfl, ?_, hfr.mono (fun x _ hx => absurd hx (not_no x)), fun x hx => .inl hx⟩
    have := h.keep0 hfr
    rwa [← setF_self f to, hf] at this
  | cons m l =>
    have hl := hb to
    rw [hf, List.length_cons] at hl
    exact (take_b h to m l hf (by omega)).mono (fun e w' hx => hx)
theorem put_any (h : Bx w g n f S) (hn : n ≤ 64) (m : MailA) (ht : m.tag.size ≤ 255) :
    Calls Try.prog 13 #[.pointer (some ⟨g, 0, none⟩), .agg m.cells] w fun e w' => ∃ S', e = .returned (.int .i64 (putC n (f m.to))) ∧ Bx w' g n (setF f m.to (putL n (f m.to) m)) S' ∧ Fr S w w' ∧ More w S S' := by
  unfold putC putL
  by_cases hl : ((f m.to).length : Int) < n
  · rw [if_pos hl, if_pos hl]
    exact (put_b h m ht hl hn).mono (fun e w' hx => hx)
  · rw [if_neg hl, if_neg hl, setF_self]
    refine (full_b h m ht (by omega)).mono ?_
    rintro e w' ⟨rfl, hfr⟩
    exact ⟨S, rfl, h.keep0 hfr, hfr.mono (fun x _ hx => absurd hx (not_no x)), fun x hx => .inl hx⟩
end
end Go.Proofs.Ytkglndlmjleomaa
