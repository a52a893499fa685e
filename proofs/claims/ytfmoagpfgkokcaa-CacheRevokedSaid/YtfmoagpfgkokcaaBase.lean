import Derived.WalkKit
import Derived.WalkSpells
import Derived.WalkLawsBesides
import Derived.WalkSmall
import Derived.BigQuiet
import Derived.RegionTactic
import Derived.Deep.QuietTactic
import Derived.Deep.LoopGhost
import Derived.Deep.DeepMust
import Derived.Deep.DeepFit
import Derived.Maps.AppendAt
import Derived.KernelRfl
import Derived.Lib.SlBytesConst
/-! Words for memory that all texts of this seat share: what a call leaves as it was ('Fr'), a row of the call's own ('Own'), a slice that reads as a list ('Rd'), a block known whole ('Blk'). -/
namespace Go.Proofs.Ytfmoagpfgkokcaa
open Go.RowKit
set_option linter.unusedVariables false

/-- a fact laid aside from the walk -/
theorem hid {p : Prop} (h : p) : Hid p := h

/-- All blocks but those of S are as they were; the streams too. -/
structure Fr (S : Nat → Prop) (w w' : World) : Prop where
  os : w'.os = w.os
  tape : w'.tape = w.tape
  output : w'.output = w.output
  size : w.heap.size ≤ w'.heap.size
  block : ∀ k, k < w.heap.size → ¬ S k → w'.heap[k]? = w.heap[k]?

/-- no block -/
def No : Nat → Prop := fun _ => False
/-- the block of a slice -/
def Of (v : Value) : Nat → Prop := fun k => v.ownBlock = some k

theorem Of_some {a : Addr} {n c k : Nat} : Of (.slice (some a) n c) k ↔ k = a.block := by
  simp only [Of, Value.ownBlock, Option.some.injEq]
  exact eq_comm
theorem Of_none {n c k : Nat} : ¬ Of (.slice none n c) k := by simp [Of, Value.ownBlock]
/-- a slice lies in S, or in a block that is new since w -/
def Grows (w : World) (S : Nat → Prop) (v : Value) : Prop := ∀ k, Of v k → S k ∨ w.heap.size ≤ k
theorem Grows.self (w : World) (v : Value) : Grows w (Of v) v := fun _ hk => .inl hk
theorem Grows.trans {w w1 : World} {S : Nat → Prop} {v v1 : Value} (h : Grows w S v) (h1 : Grows w1 (Of v) v1) (hw : w.heap.size ≤ w1.heap.size) : Grows w S v1 := fun k hk => by
  rcases h1 k hk with h2 | h2
  · exact h k h2
  · exact .inr (Nat.le_trans hw h2)
theorem not_no (k : Nat) : ¬ No k := fun h => h

section
variable {S S' : Nat → Prop} {w w' w1 w2 : World}
theorem Fr.refl (S : Nat → Prop) (w : World) : Fr S w w := ⟨rfl, rfl, rfl, Nat.le_refl _, fun _ _ _ => rfl⟩
theorem Fr.trans (h : Fr S w w1) (h' : Fr S' w1 w2) (hs : ∀ k, k < w.heap.size → S' k → S k) : Fr S w w2 :=
  ⟨h'.os.trans h.os, h'.tape.trans h.tape, h'.output.trans h.output, Nat.le_trans h.size h'.size,
    fun k hk hn => (h'.block k (Nat.lt_of_lt_of_le hk h.size) (fun hS => hn (hs k hk hS))).trans (h.block k hk hn)⟩
/-- what is written is new -/
theorem Fr.fresh (h : Fr No w w1) (h' : Fr S' w1 w2) (hs : ∀ k, S' k → w.heap.size ≤ k) : Fr No w w2 := h.trans h' (fun k hk hS => absurd (hs k hS) (by omega))
theorem Fr.fresh_nil {n c : Nat} (h : Fr No w w1) (h' : Fr (Of (.slice none n c)) w1 w2) : Fr No w w2 := h.fresh h' (fun k hk => absurd hk Of_none)
theorem Fr.fresh_no (h : Fr No w w1) (h' : Fr No w1 w2) : Fr No w w2 := h.fresh h' (fun k hk => absurd hk (not_no k))
theorem Fr.mono (h : Fr S w w') (hs : ∀ k, k < w.heap.size → S k → S' k) : Fr S' w w' :=
  ⟨h.os, h.tape, h.output, h.size, fun k hk hn => h.block k hk (fun hS => hn (hs k hk hS))⟩
theorem Fr.drewN (h : Fr S w w1) (n : Nat) : Fr S w (w1.drewN n) := ⟨h.os, h.tape, h.output, h.size, h.block⟩
theorem Fr.drew (h : Fr S w w1) : Fr S w w1.drew := ⟨h.os, h.tape, h.output, h.size, h.block⟩
theorem Fr.alloc (h : Fr S w w1) (o : Obj) : Fr S w (w1.alloc o) :=
  ⟨h.os, h.tape, h.output, by have := h.size; simp; omega, fun k hk hn => (Below.heap_alloc w1 o k (Nat.lt_of_lt_of_le hk h.size)).trans (h.block k hk hn)⟩
theorem Fr.setCell (h : Fr S w w1) {p : Addr} (hp : p.block < w.heap.size → S p.block) (u : Value) : Fr S w (w1.setCell p u) :=
  ⟨h.os, h.tape, h.output, by have := h.size; simpa [World.setCell] using this, fun k hk hn => (Below.heap_setCell w1 p u k (fun e => hn (by subst e; exact hp hk))).trans (h.block k hk hn)⟩
theorem Fr.grown {row : Option Nat} (hg : w.grownBy w' row) : Fr (fun k => row = some k) w w' :=
  ⟨hg.os, hg.tape, hg.output, hg.size, fun k hk hn => hg.block k hk (fun e => hn e.symm)⟩
theorem Fr.of_below {B : Nat} (h : Below B w w') : Fr (fun k => B ≤ k) w w' :=
  ⟨h.os, h.tape, h.output, h.size, fun k _ hn => h.block k (by omega)⟩
theorem Fr.below (h : Fr S w w') {B : Nat} (hS : ∀ k, k < B → ¬ S k) (hB : B ≤ w.heap.size) : Below B w w' :=
  ⟨h.os, h.tape, h.output, h.size, fun k hk => h.block k (by omega) (hS k hk)⟩
/-- what is new to the callee may be old to the caller: 'base' is where the caller's own begins -/
theorem Fr.cell (h : Fr S w w') {b : Nat} (hb : b < w.heap.size) (hS : ¬ S b) : ∀ o, w'.cell? ⟨b, o, none⟩ = w.cell? ⟨b, o, none⟩ :=
  fun _ => World.cell?_of_block (w := w) (a := ⟨b, _, none⟩) (h.block b hb hS)
theorem Fr.frozen (h : Fr S w w') {b : Nat} (hb : b < w.heap.size) (hS : ¬ S b) : ∀ o, w'.frozen? ⟨b, o, none⟩ = w.frozen? ⟨b, o, none⟩ :=
  fun _ => World.frozen?_of_block (w := w) (a := ⟨b, _, none⟩) (h.block b hb hS)
end

/-! ## a block known whole -/
def Blk (w : World) (g : Nat) (t : TypeId) (cs : Array Value) : Prop := w.heap[g]? = some (.cells cs t (0, 0))
section
variable {w w' : World} {g : Nat} {t : TypeId} {cs : Array Value} {S : Nat → Prop}
theorem Blk.lt (h : Blk w g t cs) : g < w.heap.size := by
  rcases Nat.lt_or_ge g w.heap.size with hlt | hge
  · exact hlt
  · unfold Blk at h; rw [Array.getElem?_eq_none hge] at h; cases h
theorem Blk.cell (h : Blk w g t cs) (i : Nat) : w.cell? ⟨g, i, none⟩ = cs[i]? := cell_of_row w g i cs t (0, 0) h
theorem Blk.frozen (h : Blk w g t cs) : ∀ i, w.frozen? ⟨g, i, none⟩ = false := by
  intro i
  unfold Blk at h
  simp [World.frozen?, h]
theorem Blk.new (w : World) (t : TypeId) (cs : Array Value) : Blk (w.alloc (.cells cs t)) w.heap.size t cs := heap_alloc_new w _
theorem Blk.drew (h : Blk w g t cs) : Blk w.drew g t cs := h
theorem Blk.drewN (h : Blk w g t cs) (n : Nat) : Blk (w.drewN n) g t cs := h
theorem Blk.alloc (h : Blk w g t cs) (o : Obj) : Blk (w.alloc o) g t cs := (Below.heap_alloc w o g h.lt).trans h
theorem Blk.set_ (h : Blk w g t cs) (i : Nat) (u : Value) : Blk (w.setCell ⟨g, i, none⟩ u) g t (cs.setIfInBounds i u) := by
  unfold Blk at h ⊢
  simp [World.setCell, Array.getElem?_modify, h]
theorem Blk.far (h : Blk w g t cs) {p : Addr} (hp : g ≠ p.block) (u : Value) : Blk (w.setCell p u) g t cs := (Below.heap_setCell w p u g hp).trans h
theorem Blk.keep (h : Blk w g t cs) (hf : Fr S w w') (hS : ¬ S g) : Blk w' g t cs := (hf.block g h.lt hS).trans h
theorem Blk.ne_ {g' : Nat} {t' : TypeId} {cs' : Array Value} (h : Blk w g t cs) (h' : Blk w g' t' cs') (hne : t ≠ t') : g ≠ g' := by
  rintro rfl
  unfold Blk at h h'
  rw [h] at h'
  injection h' with h'
  injection h' with _ ht
  exact hne ht
end

/-! ## a slice that reads as a list of cells -/
def Rd (size : Nat) (w : World) (v : Value) (n : Nat) (xs : List Value) : Prop :=
  ∃ A c, v = .slice A n c ∧ n ≤ c ∧ xs.length = n * size ∧
    (0 < n → ∃ b off, A = some ⟨b, off, none⟩ ∧ b < w.heap.size ∧ ∀ j u, xs[j]? = some u → w.cell? ⟨b, off + j, none⟩ = some u)
section
variable {size : Nat} {w w' : World} {v : Value} {n : Nat} {xs : List Value} {S : Nat → Prop}
theorem Rd.nil (size : Nat) (w : World) : Rd size w (.slice none 0 0) 0 [] := ⟨none, 0, rfl, Nat.le_refl _, by simp, fun h => absurd h (by omega)⟩
theorem Rd.keep (h : Rd size w v n xs) (hf : Fr S w w') (hS : ∀ k, v.ownBlock = some k → ¬ S k) : Rd size w' v n xs := by
  obtain ⟨A, c, rfl, hc, hl, hr⟩ := h
  refine ⟨A, c, rfl, hc, hl, fun hn => ?_⟩
  obtain ⟨b, off, rfl, hb, hx⟩ := hr hn
  exact ⟨b, off, rfl, Nat.lt_of_lt_of_le hb hf.size, fun j u hu => (hf.cell hb (hS b (by simp [Value.ownBlock])) _).trans (hx j u hu)⟩
theorem Rd.at_ {k : Nat} (h : Rd 1 w v n xs) (hk : k < n) : ∃ b off c u, v = .slice (some ⟨b, off, none⟩) n c ∧ n ≤ c ∧ xs[k]? = some u ∧ w.cell? ⟨b, off + k, none⟩ = some u := by
  obtain ⟨A, c, rfl, hc, hl, hr⟩ := h
  obtain ⟨b, off, rfl, hb, hx⟩ := hr (by omega)
  have hk' : k < xs.length := by omega
  exact ⟨b, off, c, xs[k], rfl, hc, by simp [hk'], hx k _ (by simp [hk'])⟩
theorem Rd.take {m : Nat} {A : Option Addr} {c c' : Nat} (h : Rd size w (.slice A n c) n xs) (hm : m ≤ n) (hc' : m ≤ c') : Rd size w (.slice A m c') m (xs.take (m * size)) := by
  obtain ⟨A', c1, hv, hc, hl, hr⟩ := h
  injection hv with hA _ _
  subst hA
  refine ⟨A, c', rfl, hc', by rw [List.length_take, hl]; exact Nat.min_eq_left (Nat.mul_le_mul_right _ hm), fun hn => ?_⟩
  obtain ⟨b, off, rfl, hb, hx⟩ := hr (by omega)
  refine ⟨b, off, rfl, hb, fun j u hu => hx j u ?_⟩
  rw [List.getElem?_take] at hu
  split at hu
  · exact hu
  · cases hu
theorem Rd.drop {m cap c' : Nat} {A : Option Addr} (h : Rd size w (.slice A n cap) n xs) (hm : m ≤ n) (hc' : n - m ≤ c') :
    Rd size w (.slice (if cap = m then A else A.map (·.add (m * size))) (n - m) c') (n - m) (xs.drop (m * size)) := by
  obtain ⟨A', c1, hv, hc, hl, hr⟩ := h
  injection hv with hA _ hcc
  subst hA
  subst hcc
  refine ⟨_, c', rfl, hc', by rw [List.length_drop, hl, Nat.sub_mul], fun hn => ?_⟩
  obtain ⟨b, off, rfl, hb, hx⟩ := hr (by omega)
  rw [if_neg (by omega)]
  refine ⟨b, off + m * size, ?_, hb, fun j u hu => ?_⟩
  · simp only [Option.map_some, Addr.add]
    split
    · rename_i h0; rw [h0]; simp
    · rfl
  · rw [Nat.add_assoc]
    refine hx _ u ?_
    rw [← hu, List.getElem?_drop]
end

/-! ## a row of the call's own -/
def Own (e : TypeId) (size : Nat) (w : World) (v : Value) (n : Nat) (xs : List Value) : Prop :=
  xs.length = n * size ∧
  ((v = .slice none 0 0 ∧ n = 0) ∨
   ∃ g cap cur, v = .slice (some ⟨g, 0, none⟩) n cap ∧ w.heap[g]? = some (.cells cur e (0, 0)) ∧ n ≤ cap ∧ cap ≤ maxLen ∧ cap * size ≤ cur.size ∧ cur.toList.take (n * size) = xs)
section
variable {e : TypeId} {size : Nat} {w w' : World} {v : Value} {n : Nat} {xs : List Value} {S : Nat → Prop}
theorem Own.nil (e : TypeId) (size : Nat) (w : World) : Own e size w (.slice none 0 0) 0 [] := ⟨by simp, .inl ⟨rfl, rfl⟩⟩
theorem Own.keep (h : Own e size w v n xs) (hf : Fr S w w') (hS : ∀ k, v.ownBlock = some k → ¬ S k) : Own e size w' v n xs := by
  refine ⟨h.1, ?_⟩
  rcases h.2 with h | ⟨g, cap, cur, rfl, hg, r⟩
  · exact .inl h
  · exact .inr ⟨g, cap, cur, rfl, (hf.block g (Array.getElem?_eq_some_iff.1 hg).1 (hS g rfl)).trans hg, r⟩
theorem Own.lt (h : Own e size w v n xs) : ∀ k, v.ownBlock = some k → k < w.heap.size := by
  intro k hk
  rcases h.2 with ⟨rfl, _⟩ | ⟨g, cap, cur, rfl, hg, r⟩
  · simp [Value.ownBlock] at hk
  · simp [Value.ownBlock] at hk
    subst hk
    exact (Array.getElem?_eq_some_iff.1 hg).1
theorem Own.ne_ {g' : Nat} {t' : TypeId} {cs' : Array Value} (h : Own e size w v n xs) (h' : Blk w g' t' cs') (hne : e ≠ t') : ¬ Of v g' := by
  rcases h.2 with ⟨rfl, _⟩ | ⟨g, cap, cur, rfl, hg, r⟩
  · simp [Of, Value.ownBlock]
  · intro he
    simp [Of, Value.ownBlock] at he
    subst he
    exact Blk.ne_ (t := e) hg h' hne rfl
theorem Own.slice (h : Own e size w v n xs) : ∃ A c, v = .slice A n c ∧ n ≤ c ∧ c ≤ maxLen := by
  rcases h.2 with ⟨rfl, rfl⟩ | ⟨g, cap, cur, rfl, hg, h1, h2, r⟩
  · exact ⟨none, 0, rfl, Nat.le_refl _, by simp⟩
  · exact ⟨_, cap, rfl, h1, h2⟩
theorem Own.cells (h : Own e size w v n xs) {g : Nat} (hg : v.ownBlock = some g) : ∀ j u, xs[j]? = some u → w.cell? ⟨g, j, none⟩ = some u := by
  intro j u hu
  rcases h.2 with ⟨rfl, _⟩ | ⟨g', cap, cur, rfl, hgg, _, _, _, htake⟩
  · simp [Value.ownBlock] at hg
  · simp [Value.ownBlock] at hg
    subst hg
    rw [cell_of_row w g' j cur e (0, 0) hgg]
    rw [← htake, List.getElem?_take] at hu
    split at hu
    · simpa using hu
    · cases hu
theorem Own.rd (h : Own e size w v n xs) : Rd size w v n xs := by
  have hc := @Own.cells e size w v n xs h
  have hl := h.lt
  rcases h.2 with ⟨rfl, rfl⟩ | ⟨g, cap, cur, rfl, hg, h1, h2, r⟩
  · exact ⟨none, 0, rfl, Nat.le_refl _, h.1, fun hn => absurd hn (by omega)⟩
  · refine ⟨_, cap, rfl, h1, h.1, fun _ => ⟨g, 0, rfl, hl g rfl, fun j u hu => ?_⟩⟩
    rw [Nat.zero_add]
    exact hc rfl j u hu
/-- a new row: 'buildSlice', a made row -/
theorem Own.new (w : World) (e : TypeId) (cur : Array Value) (n cap : Nat) (xs : List Value) (hc : cap ≤ maxLen) (hn : n ≤ cap) (hs : cap * size ≤ cur.size) (hx : cur.toList.take (n * size) = xs) :
    Own e size (w.alloc (.cells cur e)) (.slice (some ⟨w.heap.size, 0, none⟩) n cap) n xs := by
  refine ⟨?_, .inr ⟨w.heap.size, cap, cur, rfl, heap_alloc_new w _, hn, hc, hs, hx⟩⟩
  rw [← hx, List.length_take, Array.length_toList]
  exact Nat.min_eq_left (Nat.le_trans (Nat.mul_le_mul_right _ hn) hs)
end

theorem Own.of_owns {e : TypeId} {size base : Nat} {w : World} {v : Value} {n : Nat} {xs : List Value} (h : w.ownsRow base e size v n xs) : Own e size w v n xs := by
  refine ⟨h.1, ?_⟩
  rcases h.2 with h | ⟨g, cap, cur, rfl, _, hg, hn, hc, hs, ht⟩
  · exact .inl h
  · exact .inr ⟨g, cap, cur, rfl, hg, hn, hc, Nat.le_of_eq hs.symm, ht⟩
/-- one cell of a row of the call's own is written -/
theorem Own.set {e : TypeId} {size : Nat} {w : World} {g n c : Nat} {xs : List Value} (h : Own e size w (.slice (some ⟨g, 0, none⟩) n c) n xs) (i : Nat) (u : Value) :
    Own e size (w.setCell ⟨g, i, none⟩ u) (.slice (some ⟨g, 0, none⟩) n c) n (xs.set i u) := by
  refine ⟨by simpa using h.1, ?_⟩
  rcases h.2 with ⟨h0, _⟩ | ⟨g', cap, cur, hv, hg, hn, hc, hs, ht⟩
  · cases h0
  · injection hv with h1 h2 h3
    injection h1 with h1
    injection h1 with h1 _ _
    subst h1 h3
    refine .inr ⟨g, c, cur.setIfInBounds i u, rfl, ?_, hn, hc, by simpa using hs, ?_⟩
    · simp [World.setCell, Array.getElem?_modify, hg]
    · rw [← ht, Array.toList_setIfInBounds, List.take_set]
theorem Own.frozen {e : TypeId} {size : Nat} {w : World} {g n c : Nat} {xs : List Value} (h : Own e size w (.slice (some ⟨g, 0, none⟩) n c) n xs) : ∀ i, w.frozen? ⟨g, i, none⟩ = false := by
  rcases h.2 with ⟨h0, _⟩ | ⟨g', cap, cur, hv, hg, _⟩
  · cases h0
  · injection hv with h1 h2 h3
    injection h1 with h1
    injection h1 with h1 _ _
    subst h1
    exact Blk.frozen hg
theorem add_off (b off j : Nat) : (⟨b, off, none⟩ : Addr).add j = ⟨b, off + j, none⟩ := by
  unfold Addr.add
  split
  · rename_i h; subst h; rfl
  · rfl

/-! ## append onto a row of the call's own -/
section
variable {P : Program} (w : World)
theorem run_app (t ty e : TypeId) (i : TypeInfo) (z : Value) (size bytes : Nat) (ht : P.underlying t = some (.slice e)) (hi : P.info? e = some i) (hz : i.zero = some z)
    (hsize : i.size = size) (hby : i.bytes = bytes) (hzs : z.cells.size = size)
    (v : Value) (n : Nat) (xs : List Value) (hown : Own e size w v n xs) (x : Value) (m : Nat) (news : List Value) (hr : Rd size w x m news)
    (h1 : ∀ u ∈ news, u.oneCell' = true) (h63 : n + m ≤ maxLen) (hbytes : (n + m) * bytes ≤ 140737488355328) :
    ∃ v' w', (Builtin.append_ #[t, t] ty #[v, x]).run P w = .ok v' w' ∧ Own e size w' v' (n + m) (xs ++ news) ∧ Fr (Of v) w w' ∧ (∀ k, Of v' k → Of v k ∨ k = w.heap.size) := by
  subst hsize
  subst hby
  obtain ⟨xA, xc, rfl, hxc, hl, hrd⟩ := hr
  have hsmall : n + m ≤ 9223372036854775807 := by simp only [maxLen] at h63; omega
  have hlen : (xs ++ news).length = (n + m) * i.size := by rw [List.length_append, hown.1, hl, Nat.add_mul]
  by_cases hm : m = 0
  · subst hm
    have hn : news = [] := List.eq_nil_of_length_eq_zero (by simpa using hl)
    subst hn
    refine ⟨v, w, ?_, by simpa using hown, Fr.refl _ _, fun k hk => .inl hk⟩
    rcases hown.2 with ⟨rfl, rfl⟩ | ⟨g, cap, cur, rfl, hg, hnc, _⟩
    · cases xA <;> simp [Builtin.append_, run_underlying ht, sizeOf, typeInfo, hi, Builtin.lenOf, Builtin.firstCells, loadCells, loadCellsFrom]
    · cases xA <;> simp [Builtin.append_, run_underlying ht, sizeOf, typeInfo, hi, Builtin.lenOf, Builtin.firstCells, hnc, loadCells, loadCellsFrom, storeCells]
  · obtain ⟨b, off, rfl, hb, hx⟩ := hrd (by omega)
    have hnews : ∀ j u, news[j]? = some u → w.cell? ((⟨b, off, none⟩ : Addr).add j) = some u := fun j u hu => by rw [add_off]; exact hx j u hu
    have grown : ∀ (old : Nat), old < n + m →
        Own e i.size (w.drew.alloc (.cells (xs.toArray ++ news.toArray ++ Builtin.zeroCells z.cells (grownCap w (n + m) old e - (n + m))) e))
          (.slice (some ⟨w.heap.size, 0, none⟩) (n + m) (grownCap w (n + m) old e)) (n + m) (xs ++ news) := by
      intro old ho
      have hge := grownCap_ge w (n + m) old e
      have hcm : grownCap w (n + m) old e ≤ maxLen := grownCap_le_maxLen w (n + m) old e h63
      refine ⟨hlen, .inr ⟨w.heap.size, _, _, rfl, heap_alloc_new w.drew _, hge, hcm, ?_, ?_⟩⟩
      · simp only [Array.size_append, List.size_toArray, size_zeroCells, hzs, hown.1, hl, ← Nat.add_mul]
        exact Nat.mul_le_mul_right _ (by omega)
      · simp only [Array.toList_append, List.append_assoc]
        rw [← List.append_assoc, ← hlen]
        exact List.take_left
    rcases hown.2 with ⟨rfl, rfl⟩ | ⟨g, cap, cur, rfl, hg, hnc, hcm, hcs, htake⟩
    · have hx0 : xs = [] := List.eq_nil_of_length_eq_zero (by simpa using hown.1)
      subst hx0
      have hr := run_append_nil (P := P) w t ty e i z ht hi hz ⟨b, off, none⟩ m xc news hl hnews (by omega) (by omega) (by have hb := hbytes; simp only [Nat.zero_add] at hb; omega)
      have hgr := grown 0 (by omega)
      simp only [Nat.zero_add, List.nil_append, Array.empty_append] at hgr ⊢
      exact ⟨_, _, hr, hgr, ((Fr.refl _ w).drew).alloc _, fun k hk => .inr (by simpa [Of, Value.ownBlock] using hk.symm)⟩
    · by_cases hroom : n + m ≤ cap
      · have hfit : n * i.size + news.length ≤ cur.size := by rw [hl, ← Nat.add_mul]; exact Nat.le_trans (Nat.mul_le_mul_right _ hroom) hcs
        have hr := run_append_room (P := P) w t ty e i ht hi g n cap cur hg ⟨b, off, none⟩ m xc news hl hnews h1 hroom hfit
        refine ⟨_, _, hr, ⟨hlen, .inr ⟨g, cap, _, rfl, setRow_heap w g cur _ e _ hg, hroom, hcm, ?_, ?_⟩⟩, ⟨rfl, rfl, rfl, by simp, fun k _ hk => setRow_other w g k _ (fun e => hk (by simp [Of, Value.ownBlock, e]))⟩, fun k hk => .inl hk⟩
        · simp only [List.size_toArray, List.length_append, List.length_take, List.length_drop, Array.length_toList]
          omega
        · rw [htake, ← hlen]
          exact List.take_left
      · have holds : ∀ j u, xs[j]? = some u → w.cell? ((⟨g, 0, none⟩ : Addr).add j) = some u := fun j u hu => by rw [add_off, Nat.zero_add]; exact hown.cells (g := g) rfl j u hu
        have hr := run_append_grow (P := P) w t ty e i z ht hi hz ⟨g, 0, none⟩ n cap xs hown.1 holds ⟨b, off, none⟩ m xc news hl hnews (by omega) (by omega) (growslice_fits (by omega) hbytes)
        exact ⟨_, _, hr, grown cap (by omega), ((Fr.refl _ w).drew).alloc _, fun k hk => .inr (by simpa [Of, Value.ownBlock] using hk.symm)⟩

theorem wp_app {o : Oper} {a : Act} {K : Act → World → Prop} {Q : Exit → Act → World → Prop} (s x : Operand) (t : TypeId)
    (ho : o.op = .call { callee := .builtin .append, args := #[s, x], argTypes := #[t, t] })
    (e : TypeId) (z : Value) (size bytes : Nat) (ht : P.underlying t = some (.slice e)) (hinfo : (P.info? e).map (fun i => (i.zero, i.size, i.bytes)) = some (some z, size, bytes)) (hzs : z.cells.size = size)
    (v : Value) (n : Nat) (xs : List Value) (hs : a.eval s = v) (hown : Own e size w v n xs) (xv : Value) (m : Nat) (news : List Value) (hx : a.eval x = xv) (hr : Rd size w xv m news)
    (h1 : ∀ u ∈ news, u.oneCell' = true) (h63 : n + m ≤ maxLen) (hbytes : (n + m) * bytes ≤ 140737488355328)
    (h : ∀ v' w', Own e size w' v' (n + m) (xs ++ news) → Fr (Of v) w w' → (∀ k, Of v' k → Of v k ∨ k = w.heap.size) → K (a.put o.dst v') w') : o.wp P a w K Q := by
  obtain ⟨i, hi, hz, hsize, hby⟩ := info_parts hinfo
  obtain ⟨v', w', hrun, h2, h3, h4⟩ := run_app (P := P) w t o.type e i z size bytes ht hi hz hsize hby hzs v n xs hown xv m news hr h1 h63 hbytes
  unfold Oper.wp execOp
  simp only [ho, resolve, invoke, builtin, Sem.run_bind, Sem.run_pure, Result.andThen_ok, List.map_toArray, List.map_cons, List.map_nil, hs, hx, hrun]
  exact h v' w' h2 h3 h4
theorem wpl_app {ops : Array Oper} {rest : List Oper} {o : Oper} {a : Act} {Q : Exit → Act → World → Prop} (hgd : o.guard = none) (s x : Operand) (t : TypeId)
    (ho : o.op = .call { callee := .builtin .append, args := #[s, x], argTypes := #[t, t] })
    (e : TypeId) (z : Value) (size bytes : Nat) (ht : P.underlying t = some (.slice e)) (hinfo : (P.info? e).map (fun i => (i.zero, i.size, i.bytes)) = some (some z, size, bytes)) (hzs : z.cells.size = size)
    (v : Value) (n : Nat) (xs : List Value) (hs : a.eval s = v) (hown : Own e size w v n xs) (xv : Value) (m : Nat) (news : List Value) (hx : a.eval x = xv) (hr : Rd size w xv m news)
    (h1 : ∀ u ∈ news, u.oneCell' = true) (h63 : n + m ≤ maxLen) (hbytes : (n + m) * bytes ≤ 140737488355328)
    (h : ∀ v' w', Own e size w' v' (n + m) (xs ++ news) → Fr (Of v) w w' → (∀ k, Of v' k → Of v k ∨ k = w.heap.size) → wpList P ops Q rest (a.put o.dst v') w') : wpList P ops Q (o :: rest) a w :=
  wpList_plain hgd fun _ hK => wp_app w s x t ho e z size bytes ht hinfo hzs v n xs hs hown xv m news hx hr h1 h63 hbytes fun v' w' h2 h3 h4 => hK _ _ (h v' w' h2 h3 h4)
theorem step_app {ops : Array Oper} {o : Oper} {a : Act} {K : Act → World → Prop} {Q : Exit → Act → World → Prop} {E : Prop} (hgd : o.guard = none) (s x : Operand) (t : TypeId)
    (ho : o.op = .call { callee := .builtin .append, args := #[s, x], argTypes := #[t, t] })
    (e : TypeId) (z : Value) (size bytes : Nat) (ht : P.underlying t = some (.slice e)) (hinfo : (P.info? e).map (fun i => (i.zero, i.size, i.bytes)) = some (some z, size, bytes)) (hzs : z.cells.size = size)
    (v : Value) (n : Nat) (xs : List Value) (hs : a.eval s = v) (hown : Own e size w v n xs) (xv : Value) (m : Nat) (news : List Value) (hx : a.eval x = xv) (hr : Rd size w xv m news)
    (h1 : ∀ u ∈ news, u.oneCell' = true) (h63 : n + m ≤ maxLen) (hbytes : (n + m) * bytes ≤ 140737488355328)
    (h : ∀ v' w', Own e size w' v' (n + m) (xs ++ news) → Fr (Of v) w w' → (∀ k, Of v' k → Of v k ∨ k = w.heap.size) → K (a.put o.dst v') w') :
    if Region.wanted o (yielded ops a.tmps) = true then Oper.wp P o a w K Q else E := by
  have hw : Region.wanted o (yielded ops a.tmps) = true := by simp [Region.wanted, hgd]
  rw [if_pos hw]
  exact wp_app w s x t ho e z size bytes ht hinfo hzs v n xs hs hown xv m news hx hr h1 h63 hbytes h
end

/-! ## min, max -/
section
variable {P : Program} (ats : Array TypeId) (ty : TypeId) (k : IntKind) (w : World)
theorem run_min2 (a b : Int) : (Builtin.min_ ats ty #[.int k a, .int k b]).run P w = .ok (.int k (min a b)) w := by
  have e : (if b < a then b else a) = min a b := by rw [Int.min_def]; split <;> split <;> omega
  simp only [Builtin.min_, List.foldlM_cons, List.foldlM_nil, Builtin.min2, pure_bind, e]
  rfl
theorem run_max2 (a b : Int) : (Builtin.max_ ats ty #[.int k a, .int k b]).run P w = .ok (.int k (max a b)) w := by
  have e : (if b > a then b else a) = max a b := by rw [Int.max_def]; split <;> split <;> omega
  simp only [Builtin.max_, List.foldlM_cons, List.foldlM_nil, Builtin.max2, pure_bind, e]
  rfl
theorem run_min4 (a b c d : Int) : (Builtin.min_ ats ty #[.int k a, .int k b, .int k c, .int k d]).run P w = .ok (.int k (min (min (min a b) c) d)) w := by
  have e : ∀ a b : Int, (if b < a then b else a) = min a b := by intro a b; rw [Int.min_def]; split <;> split <;> omega
  simp only [Builtin.min_, List.foldlM_cons, List.foldlM_nil, Builtin.min2, pure_bind, e]
  rfl
theorem run_max4 (a b c d : Int) : (Builtin.max_ ats ty #[.int k a, .int k b, .int k c, .int k d]).run P w = .ok (.int k (max (max (max a b) c) d)) w := by
  have e : ∀ a b : Int, (if b > a then b else a) = max a b := by intro a b; rw [Int.max_def]; split <;> split <;> omega
  simp only [Builtin.max_, List.foldlM_cons, List.foldlM_nil, Builtin.max2, pure_bind, e]
  rfl
end

/-! ## bytes -/
def bv (b : UInt8) : Value := .int .u8 b.toNat
def bvs (xs : List UInt8) : List Value := xs.map bv
theorem bvs_length (xs : List UInt8) : (bvs xs).length = xs.length := by simp [bvs]
theorem bvs_append (xs ys : List UInt8) : bvs (xs ++ ys) = bvs xs ++ bvs ys := by simp [bvs]
theorem bvs_one (xs : List UInt8) : ∀ u ∈ bvs xs, u.oneCell' = true := by
  intro u hu
  simp only [bvs, List.mem_map] at hu
  obtain ⟨b, _, rfl⟩ := hu
  rfl
theorem bvs_get (xs : List UInt8) (k : Nat) : (bvs xs)[k]? = xs[k]?.map bv := by simp [bvs]
/-- a slice of bytes that reads as xs -/
def RdB (w : World) (v : Value) (xs : List UInt8) : Prop := Rd 1 w v xs.length (bvs xs)
/-- a row of bytes of the call's own (e: the type byte's number) -/
def OwnB (e : TypeId) (w : World) (v : Value) (xs : List UInt8) : Prop := Own e 1 w v xs.length (bvs xs)
section
variable {e : TypeId} {w w' : World} {v : Value} {xs : List UInt8} {S : Nat → Prop}
theorem RdB.nil (w : World) : RdB w (.slice none 0 0) [] := Rd.nil 1 w
theorem RdB.keep (h : RdB w v xs) (hf : Fr S w w') (hS : ∀ k, Of v k → ¬ S k) : RdB w' v xs := Rd.keep h hf hS
theorem RdB.keep_ (h : RdB w v xs) (hf : Fr S w w') (hS : 0 < xs.length → ∀ k, Of v k → ¬ S k) : RdB w' v xs := by
  rcases Nat.eq_zero_or_pos xs.length with h0 | h0
  · obtain ⟨A, c, rfl, hc, hl, hr⟩ := h
    exact ⟨A, c, rfl, hc, hl, fun hn => absurd hn (by omega)⟩
  · exact h.keep hf (hS h0)
/-- bytes that came in: they lie in memory that is there -/
def InB (w : World) (v : Value) (xs : List UInt8) : Prop := RdB w v xs ∧ (0 < xs.length → ∀ k, Of v k → k < w.heap.size)
theorem RdB.slice (h : RdB w v xs) : ∃ A c, v = .slice A xs.length c ∧ xs.length ≤ c := by
  obtain ⟨A, c, rfl, hc, _⟩ := h
  exact ⟨A, c, rfl, hc⟩
theorem RdB.at_ {A : Option Addr} {c k : Nat} (h : RdB w (.slice A xs.length c) xs) (hk : k < xs.length) : ∃ b off, A = some ⟨b, off, none⟩ ∧ w.cell? ⟨b, off + k, none⟩ = some (.int .u8 (xs[k]'hk).toNat) := by
  obtain ⟨A', c', hv, hc, hl, hr⟩ := h
  injection hv with hA _ _
  subst hA
  obtain ⟨b, off, rfl, hb, hx⟩ := hr (by omega)
  exact ⟨b, off, rfl, hx k _ (by simp [bvs, bv, hk])⟩
theorem RdB.take {m : Nat} {A : Option Addr} {c c' : Nat} (h : RdB w (.slice A xs.length c) xs) (hm : m ≤ xs.length) (hc' : m ≤ c') : RdB w (.slice A m c') (xs.take m) := by
  have := Rd.take h hm hc'
  simp only [Nat.mul_one] at this
  unfold RdB
  rw [List.length_take, Nat.min_eq_left hm, show bvs (xs.take m) = (bvs xs).take m by simp [bvs]]
  exact this
theorem RdB.drop {m cap c' : Nat} {A : Option Addr} (h : RdB w (.slice A xs.length cap) xs) (hm : m ≤ xs.length) (hc' : xs.length - m ≤ c') :
    RdB w (.slice (if cap = m then A else A.map (·.add m)) (xs.length - m) c') (xs.drop m) := by
  have := Rd.drop h hm hc'
  simp only [Nat.mul_one] at this
  unfold RdB
  rw [List.length_drop, show bvs (xs.drop m) = (bvs xs).drop m by simp [bvs]]
  exact this
theorem OwnB.set {g n c : Nat} (h : OwnB e w (.slice (some ⟨g, 0, none⟩) n c) xs) (hn : n = xs.length) (i : Nat) (b : UInt8) : OwnB e (w.setCell ⟨g, i, none⟩ (.int .u8 b.toNat)) (.slice (some ⟨g, 0, none⟩) n c) (xs.set i b) := by
  subst hn
  unfold OwnB
  rw [List.length_set, show bvs (xs.set i b) = (bvs xs).set i (.int .u8 b.toNat) by simp [bvs, bv, List.map_set]]
  exact Own.set h i _
theorem OwnB.nil (e : TypeId) (w : World) : OwnB e w (.slice none 0 0) [] := Own.nil e 1 w
theorem OwnB.keep (h : OwnB e w v xs) (hf : Fr S w w') (hS : ∀ k, Of v k → ¬ S k) : OwnB e w' v xs := Own.keep h hf hS
theorem OwnB.alloc (h : OwnB e w v xs) (o : Obj) : OwnB e (w.alloc o) v xs := h.keep ((Fr.refl No _).alloc o) (fun _ _ => not_no _)
theorem OwnB.drewN (h : OwnB e w v xs) (n : Nat) : OwnB e (w.drewN n) v xs := h.keep ((Fr.refl No _).drewN n) (fun _ _ => not_no _)
theorem RdB.alloc (h : RdB w v xs) (o : Obj) : RdB (w.alloc o) v xs := h.keep ((Fr.refl No _).alloc o) (fun _ _ => not_no _)
theorem RdB.drewN (h : RdB w v xs) (n : Nat) : RdB (w.drewN n) v xs := h.keep ((Fr.refl No _).drewN n) (fun _ _ => not_no _)
/-- a literal of bytes -/
theorem RdB.lit (w : World) (e : TypeId) (cs : Array Value) (n : Nat) (ys : List UInt8) (h : cs.toList = bvs ys) (hn : n = ys.length) : RdB (w.alloc (.cells cs e)) (.slice (some ⟨w.heap.size, 0, none⟩) n n) ys := by
  subst hn
  refine ⟨_, _, rfl, Nat.le_refl _, by simp [bvs], fun _ => ⟨w.heap.size, 0, rfl, by simp, fun j u hu => ?_⟩⟩
  rw [Nat.zero_add, cell_of_row _ _ j cs e (0, 0) (heap_alloc_new w _), ← Array.getElem?_toList, h]
  exact hu
theorem OwnB.lit (w : World) (e : TypeId) (cs : Array Value) (n : Nat) (ys : List UInt8) (h : cs.toList = bvs ys) (hn : n = ys.length) (hm : n ≤ maxLen) : OwnB e (w.alloc (.cells cs e)) (.slice (some ⟨w.heap.size, 0, none⟩) n n) ys := by
  subst hn
  have hs : cs = (bvs ys).toArray := by apply Array.ext'; simpa using h
  subst hs
  exact Own.new w e _ _ _ _ hm (Nat.le_refl _) (by simp [bvs]) (by simp [bvs, List.take_of_length_le])
theorem RdB.lit_ (w : World) (e : TypeId) (cs : Array Value) {fr : Nat × Nat} (n : Nat) (ys : List UInt8) (h : cs.toList = bvs ys) (hn : n = ys.length) (g : Nat) (hg : g = w.heap.size) : RdB (w.alloc (.cells cs e fr)) (.slice (some ⟨g, 0, none⟩) n n) ys := by
  subst hg hn
  refine ⟨_, _, rfl, Nat.le_refl _, by simp [bvs], fun _ => ⟨w.heap.size, 0, rfl, by simp, fun j u hu => ?_⟩⟩
  rw [Nat.zero_add, cell_of_row _ _ j cs e fr (heap_alloc_new w _), ← Array.getElem?_toList, h]
  exact hu
/-- '[]byte("constant")': the conversion of a new row marks it -/
theorem run_convert_const {P : Program} (t e : TypeId) (ht : P.underlying t = some (.slice e)) (he : P.underlying e = some (.int .u8)) :
    ∀ (w : World) (C : Array Value) (n c g : Nat), g = w.heap.size → (convert t t (.slice (some ⟨g, 0, none⟩) n c)).run P (w.alloc (.cells C e)) = .ok (.slice (some ⟨g, 0, none⟩) n c) (w.alloc (.cells C e (C.size, C.size + 1))) := by
  intro w C n c g hg
  subst hg
  exact Lib.run_convert_bytes_const w t e C n c ht he
theorem OwnB.lit_ (w : World) (e : TypeId) (cs : Array Value) (n : Nat) (ys : List UInt8) (h : cs.toList = bvs ys) (hn : n = ys.length) (hm : n ≤ maxLen) (g : Nat) (hg : g = w.heap.size) : OwnB e (w.alloc (.cells cs e)) (.slice (some ⟨g, 0, none⟩) n n) ys := by
  subst hg; exact OwnB.lit w e cs n ys h hn hm
theorem OwnB.rd (h : OwnB e w v xs) : RdB w v xs := Own.rd h
theorem OwnB.lt (h : OwnB e w v xs) : ∀ k, Of v k → k < w.heap.size := Own.lt h
theorem OwnB.slice (h : OwnB e w v xs) : ∃ A c, v = .slice A xs.length c ∧ xs.length ≤ c := by
  obtain ⟨A, c, rfl, hc, _⟩ := Own.slice h
  exact ⟨A, c, rfl, hc⟩
theorem OwnB.new (w : World) (e : TypeId) (xs : List UInt8) (hm : xs.length ≤ maxLen) : OwnB e (w.alloc (.cells (bvs xs).toArray e)) (.slice (some ⟨w.heap.size, 0, none⟩) xs.length xs.length) xs :=
  Own.new w e _ _ _ _ hm (Nat.le_refl _) (by simp [bvs]) (by simp [bvs, List.take_of_length_le])
end
/-- 'make([]byte, n)' -/
theorem wpl_makeB {P : Program} (w : World) {ops : Array Oper} {rest : List Oper} {o : Oper} {a : Act} {Q : Exit → Act → World → Prop}
    (hg : o.guard = none) (l c : Operand) (t : TypeId) (hop : o.op = Op.makeSlice t l c) (e : TypeId) (h1 : P.underlying t = some (.slice e))
    (hinfo : (P.info? e).map (fun i => (i.zero, i.size, i.bytes)) = some (some (.int .u8 0), 1, 1))
    (kl kc : IntKind) (L C : Int) (n : Nat) (hl : a.eval l = .int kl L) (hc : a.eval c = .int kc C) (hL : L = (n : Int)) (hC : C = (n : Int)) (b2 : n ≤ 281474976710656)
    (hK : ∀ w', Hid (OwnB e w' (.slice (some ⟨w.heap.size, 0, none⟩) n n) (List.replicate n 0)) → Hid (Fr No w w') → wpList P ops Q rest (a.put o.dst (.slice (some ⟨w.heap.size, 0, none⟩) n n)) w') :
    wpList P ops Q (o :: rest) a w := by
  obtain ⟨i, hi, hz, hsize, hby⟩ := info_parts hinfo
  refine wpList_make_full w hg l c t hop 0 e i _ 1 h1 hi hz hsize kl kc L C n hl hc hL hC (by rw [hby]; omega) (by simp only [maxLen]; omega) (Nat.zero_le _) (fun w' ho hgr => hK w' ?_ ((Fr.grown hgr).mono (fun k _ h => by cases h)))
  have := Own.of_owns ho
  unfold Hid OwnB
  rw [List.length_replicate]
  have hx : bvs (List.replicate n 0) = (madeCells (Value.int IntKind.u8 0).cells (n * 1)).toList := by
    apply List.ext_getElem
    · simp [bvs, madeCells]
    · intro i h1 h2
      simp [bvs, bv, madeCells, Value.cells, Nat.mod_one]
  rw [hx]
  exact this
theorem wpl_appB {P : Program} (w : World) {ops : Array Oper} {rest : List Oper} {o : Oper} {a : Act} {Q : Exit → Act → World → Prop} (hgd : o.guard = none) (s x : Operand) (t : TypeId)
    (ho : o.op = .call { callee := .builtin .append, args := #[s, x], argTypes := #[t, t] })
    (e : TypeId) (ht : P.underlying t = some (.slice e)) (hinfo : (P.info? e).map (fun i => (i.zero, i.size, i.bytes)) = some (some (.int .u8 0), 1, 1))
    (v : Value) (xs : List UInt8) (hs : a.eval s = v) (hown : OwnB e w v xs) (xv : Value) (ys : List UInt8) (hx : a.eval x = xv) (hr : RdB w xv ys) (hb : xs.length + ys.length ≤ 140737488355328)
    (h : ∀ v' w', Hid (OwnB e w' v' (xs ++ ys)) → Hid (Fr (Of v) w w') → Hid (Grows w (Of v) v') → wpList P ops Q rest (a.put o.dst v') w') : wpList P ops Q (o :: rest) a w := by
  refine wpl_app w hgd s x t ho e _ 1 1 ht hinfo rfl v _ _ hs hown xv _ _ hx hr (bvs_one ys) (by simp only [maxLen]; omega) (by omega) (fun v' w' h1 h2 h3 => h v' w' ?_ h2 (fun k hk => (h3 k hk).imp id (fun e => by omega)))
  unfold OwnB Hid
  rw [List.length_append, bvs_append]
  exact h1
theorem step_appB {P : Program} (w : World) {ops : Array Oper} {o : Oper} {a : Act} {K : Act → World → Prop} {Q : Exit → Act → World → Prop} {E : Prop} (hgd : o.guard = none) (s x : Operand) (t : TypeId)
    (ho : o.op = .call { callee := .builtin .append, args := #[s, x], argTypes := #[t, t] })
    (e : TypeId) (ht : P.underlying t = some (.slice e)) (hinfo : (P.info? e).map (fun i => (i.zero, i.size, i.bytes)) = some (some (.int .u8 0), 1, 1))
    (v : Value) (xs : List UInt8) (hs : a.eval s = v) (hown : OwnB e w v xs) (xv : Value) (ys : List UInt8) (hx : a.eval x = xv) (hr : RdB w xv ys) (hb : xs.length + ys.length ≤ 140737488355328)
    (h : ∀ v' w', Hid (OwnB e w' v' (xs ++ ys)) → Hid (Fr (Of v) w w') → Hid (Grows w (Of v) v') → K (a.put o.dst v') w') :
    if Region.wanted o (yielded ops a.tmps) = true then Oper.wp P o a w K Q else E := by
  refine step_app w hgd s x t ho e _ 1 1 ht hinfo rfl v _ _ hs hown xv _ _ hx hr (bvs_one ys) (by simp only [maxLen]; omega) (by omega) (fun v' w' h1 h2 h3 => h v' w' ?_ h2 (fun k hk => (h3 k hk).imp id (fun e => by omega)))
  unfold OwnB Hid
  rw [List.length_append, bvs_append]
  exact h1
theorem RdB.heap {w w' : World} {v : Value} {xs : List UInt8} (h : RdB w v xs) (e : w'.heap = w.heap) : RdB w' v xs := by
  unfold RdB Rd World.cell? at h ⊢
  rw [e]
  exact h
theorem OwnB.heap {t : TypeId} {w w' : World} {v : Value} {xs : List UInt8} (h : OwnB t w v xs) (e : w'.heap = w.heap) : OwnB t w' v xs := by
  unfold OwnB Own at h ⊢
  rw [e]
  exact h
theorem OwnB.form {e : TypeId} {w : World} {v : Value} {xs : List UInt8} (h : OwnB e w v xs) (h0 : 0 < xs.length) : ∃ g cap, v = .slice (some ⟨g, 0, none⟩) xs.length cap ∧ xs.length ≤ cap ∧ g < w.heap.size := by
  have hl := h.lt
  rcases h.2 with ⟨rfl, h1⟩ | ⟨g, cap, cur, rfl, hg, hn, _⟩
  · omega
  · exact ⟨g, cap, rfl, hn, hl g rfl⟩
theorem OwnB.cell {e : TypeId} {w : World} {g n c : Nat} {xs : List UInt8} (h : OwnB e w (.slice (some ⟨g, 0, none⟩) n c) xs) {i : Nat} {b : UInt8} (hb : xs[i]? = some b) : w.cell? ⟨g, i, none⟩ = some (.int .u8 b.toNat) :=
  Own.cells h (g := g) rfl i (bv b) (by simp [bvs, hb])
theorem OwnB.frozen {e : TypeId} {w : World} {g n c : Nat} {xs : List UInt8} (h : OwnB e w (.slice (some ⟨g, 0, none⟩) n c) xs) (hn : n = xs.length) : ∀ i, w.frozen? ⟨g, i, none⟩ = false := by
  subst hn
  exact Own.frozen h
end Go.Proofs.Ytfmoagpfgkokcaa
