import Derived.Test.YthcebkbedfaoeaaLeaseA
import Derived.Deep.RegionHeldLaw
import Derived.Deep.Cut
/-! Leases, their keys, the table; New. -/
namespace Go.Proofs.Ythcebkbedfaoeaa
open Go.RowKit
set_option linter.unusedVariables false
set_option linter.unusedSimpArgs false

structure Ls where
  node : Int
  version : Int
  fn : Int
  epoch : Int
  till : Int
deriving DecidableEq
def Ls.cells (x : Ls) : Array Value := #[.int .i64 x.node, .int .i64 x.version, .int .i64 x.fn, .int .i64 x.epoch, .int .i64 x.till]
def Ls.val (x : Ls) : Value := .agg x.cells
abbrev K3 := Int × Int × Int
def enc3 (k : K3) : Value := .agg #[.int .i64 k.1, .int .i64 k.2.1, .int .i64 k.2.2]
def vals (ms : List (K3 × Ls)) : List (K3 × Value) := ms.map (fun p => (p.1, p.2.val))
set_option maxRecDepth 100000 in
theorem part_key (a b c : Value) (w : World) : (part 3 #[a, b, c] 0).run Try.prog w = .ok a w ∧ (part 3 #[a, b, c] 1).run Try.prog w = .ok b w ∧ (part 3 #[a, b, c] 2).run Try.prog w = .ok c w := ⟨by kernel_rfl, by kernel_rfl, by kernel_rfl⟩
set_option maxRecDepth 100000 in
theorem check_key (w : World) (em : Bool) (k : K3) : (Instr.checkKey em 10000 65 (enc3 k)).run Try.prog w = .ok () w := by
  obtain ⟨a, b, c⟩ := k
  unfold enc3
  kernel_rfl
set_option maxRecDepth 100000 in
theorem eq_key (w : World) (a b : K3) : ∃ r, (Op.equal 65 (enc3 a) (enc3 b)).run Try.prog w = .ok r w ∧ (r = true ↔ a = b) := by
  obtain ⟨a0, a1, a2⟩ := a
  obtain ⟨b0, b1, b2⟩ := b
  have hu : Try.prog.underlying 65 = some (.struct (Try.prog.fieldsOf 65)) := by kernel_rfl
  have hp : Try.prog.stoodInHeld 65 = false := by kernel_rfl
  have hi : Try.prog.underlying 3 = some (.int .i64) := Try.underlying3
  have e1 : (Op.equal 65 (enc3 (a0, a1, a2)) (enc3 (b0, b1, b2))).run Try.prog w = (Op.eqFields 9999 #[.int .i64 a0, .int .i64 a1, .int .i64 a2] #[.int .i64 b0, .int .i64 b1, .int .i64 b2] (Try.prog.fieldsOf 65).toList).run Try.prog w := run_equalIn_struct w 9999 65 _ _ hu hp
  rw [e1]
  have hf : ∃ f0 f1 f2 : Field, (Try.prog.fieldsOf 65).toList = [f0, f1, f2] ∧ (f0.name ≠ "_" ∧ f0.type = 3 ∧ f0.offset = 0) ∧ (f1.name ≠ "_" ∧ f1.type = 3 ∧ f1.offset = 1) ∧ (f2.name ≠ "_" ∧ f2.type = 3 ∧ f2.offset = 2) := by
    unfold Program.fieldsOf
    rw [Try.underlying65]
    exact ⟨_, _, _, rfl, ⟨by decide, rfl, rfl⟩, ⟨by decide, rfl, rfl⟩, ⟨by decide, rfl, rfl⟩⟩
  obtain ⟨f0, f1, f2, hl, ⟨n0, t0, o0⟩, ⟨n1, t1, o1⟩, ⟨n2, t2, o2⟩⟩ := hf
  rw [hl]
  have hq := fun (a b : Int) => run_equalIn_int (P := Try.prog) w 9998 3 .i64 .i64 a b hi
  have p0 := fun a b c => (part_key a b c w).1
  have p1 := fun a b c => (part_key a b c w).2.1
  have p2 := fun a b c => (part_key a b c w).2.2
  refine ⟨decide (a0 = b0) && (decide (a1 = b1) && decide (a2 = b2)), ?_, by simp⟩
  simp only [Op.eqFields, n0, n1, n2, t0, t1, t2, o0, o1, o2, Sem.run_bind, ne_eq, not_false_eq_true, if_true, p0, p1, p2, Result.andThen, hq]
  by_cases e0 : a0 = b0 <;> by_cases e1 : a1 = b1 <;> by_cases e2 : a2 = b2 <;> simp [e0, e1, e2, Result.andThen, p0, p1, p2, hq]
theorem enc3_inj {a b : K3} (h : enc3 a = enc3 b) : a = b := by
  obtain ⟨a0, a1, a2⟩ := a
  obtain ⟨b0, b1, b2⟩ := b
  simpa [enc3] using h
theorem keyOK3 : KeyOK Try.prog 65 enc3 := keyOK_struct Try.underlying65 enc3_inj check_key eq_key (fun k => by obtain ⟨a, b, c⟩ := k; simp [enc3, Instr.sameBits])
/-! ## entries by their leases -/
def getT (k : K3) (ms : List (K3 × Ls)) : Option Ls := (ms.find? (fun p => decide (p.1 = k))).map (·.2)
def putT (k : K3) (v : Ls) (ms : List (K3 × Ls)) : List (K3 × Ls) := if k ∈ ms.map (·.1) then ms.map (fun p => if p.1 = k then (k, v) else p) else ms ++ [(k, v)]
theorem vals_keys (ms : List (K3 × Ls)) : (vals ms).map (·.1) = ms.map (·.1) := by simp [vals, List.map_map, Function.comp_def]
theorem get_vals (k : K3) (ms : List (K3 × Ls)) : getK k (vals ms) = (getT k ms).map Ls.val := by
  unfold getK getT vals
  rw [List.find?_map]
  cases h : ms.find? (fun p => decide (p.1 = k)) with
  | none =>
    have : List.find? ((fun p : K3 × Value => @BEq.beq K3 instBEqOfDecidableEq p.1 k) ∘ fun p : K3 × Ls => (p.1, p.2.val)) ms = none := h
    rw [this]
    rfl
  | some p =>
    have : List.find? ((fun p : K3 × Value => @BEq.beq K3 instBEqOfDecidableEq p.1 k) ∘ fun p : K3 × Ls => (p.1, p.2.val)) ms = some p := h
    rw [this]
    rfl
theorem put_vals (k : K3) (x : Ls) (ms : List (K3 × Ls)) : putK k x.val (vals ms) = vals (putT k x ms) := by
  unfold putK putT
  rw [vals_keys]
  split
  · unfold vals
    rw [List.map_map, List.map_map]
    apply List.map_congr_left
    intro p _
    by_cases hp : p.1 = k <;> simp [hp]
  · simp [vals]
theorem del_vals (k : K3) (ms : List (K3 × Ls)) : delK k (vals ms) = vals (ms.filter (fun p => !decide (p.1 = k))) := by
  unfold delK vals
  rw [List.filter_map]
  rfl
/-- a table in block g, its map in block b -/
structure IsTab (w : World) (g b : Nat) (n l s : Int) (ms : List (K3 × Ls)) : Prop where
  blk : Blk w g 27 #[.int .i64 n, .int .i64 l, .int .i64 s, .map (some b)]
  map : MapAt enc3 w b (vals ms)
theorem MapAt.lt {κ : Type} {enc : κ → Value} {w : World} {b : Nat} {ms : List (κ × Value)} (h : MapAt enc w b ms) : b < w.heap.size := by
  obtain ⟨es, clock, hb, _⟩ := h
  exact lt_of_some hb
theorem Blk.not_mapK {κ : Type} {enc : κ → Value} {w : World} {g b : Nat} {t : TypeId} {cs : Array Value} {ms : List (κ × Value)} (h : Blk w g t cs) (hm : MapAt enc w b ms) : g ≠ b := by
  obtain ⟨es, clock, hb, _⟩ := hm
  rintro rfl
  unfold Blk at h
  rw [hb] at h
  cases h
section
variable {w w1 : World} {g b : Nat} {n l s : Int} {ms : List (K3 × Ls)} {S : Nat → Prop}
theorem IsTab.keep_ (h : IsTab w g b n l s ms) (hf : Fr S w w1) (h1 : ¬ S g) (h2 : ¬ S b) : IsTab w1 g b n l s ms := ⟨h.blk.keep hf h1, h.map.keep hf h2⟩
theorem IsTab.keep (h : IsTab w g b n l s ms) (hf : Fr No w w1) : IsTab w1 g b n l s ms := h.keep_ hf (not_no _) (not_no _)
theorem IsTab.ne (h : IsTab w g b n l s ms) : g ≠ b := h.blk.not_mapK h.map
end
set_option maxRecDepth 100000 in
set_option maxHeartbeats 400000 in
theorem new_c (w : World) (n l s : Int) (h1 : 1 ≤ n) (h2 : n ≤ 16) (h3 : 1 ≤ l) (h4 : l ≤ 1048576) (h5 : 0 ≤ s) (h6 : s ≤ 1048576) :
    Calls Try.prog 15 #[.int .i64 n, .int .i64 l, .int .i64 s] w fun e w' => ∃ g b, e = .returned (.tuple #[.pointer (some ⟨g, 0, none⟩), .int .i64 0]) ∧ IsTab w' g b n l s [] ∧ Fr No w w' ∧ w.heap.size ≤ g ∧ w.heap.size ≤ b := by
  have d1 : ¬ n < 1 := by omega
  have d2 : ¬ 16 < n := by omega
  have d3 : ¬ l < 1 := by omega
  have d4 : ¬ 1048576 < l := by omega
  have d5 : ¬ s < 0 := by omega
  have d6 : ¬ 1048576 < s := by omega
  have hmm := @run_makeMap Try.prog
  go_enter Try.func15, Try.ntmps15
  go_wp2_with fail
  go_ret2
  have HB : Blk ((w.alloc (.map #[] 0)).alloc (.cells #[.int .i64 n, .int .i64 l, .int .i64 s, .map (some w.heap.size)] 27)) (w.heap.size + 1) 27 #[.int .i64 n, .int .i64 l, .int .i64 s, .map (some w.heap.size)] := by
    have h := Blk.new (w.alloc (.map #[] 0)) 27 #[.int .i64 n, .int .i64 l, .int .i64 s, .map (some w.heap.size)]
    rwa [show (w.alloc (.map #[] 0)).heap.size = w.heap.size + 1 by simp] at h
  have HM : MapAt enc3 ((w.alloc (.map #[] 0)).alloc (.cells #[.int .i64 n, .int .i64 l, .int .i64 s, .map (some w.heap.size)] 27)) w.heap.size [] := (MapAt.new w).keep ((Fr.refl No _).alloc _) (not_no _)
  exact ⟨w.heap.size + 1, rfl, w.heap.size, ⟨HB, HM⟩, ((Fr.refl No w).alloc _).alloc _, by omega, Nat.le_refl _⟩
end Go.Proofs.Ythcebkbedfaoeaa
