import Derived.Test.YtfmoagpfgkokcaaMapG
import Derived.Test.YtfmoagpfgkokcaaMem
import Derived.Test.YtfmoagpfgkokcaaProg
import Derived.Deep.RegionLaw
import Derived.BigRegion
import Derived.WalkSpells
import Derived.Deep.QuietTactic
import Derived.BigQuiet
import Derived.Deep.RegionHeldLaw
import Derived.Deep.Cut
/-! Entries; needs; whether code rests on a function. -/
namespace Go.Proofs.Ytfmoagpfgkokcaa
open Go.RowKit
set_option linter.unusedVariables false
set_option linter.unusedSimpArgs false

def RetT (w : World) : Ending → World → Prop := fun en w' => en = .returned (.bool true) ∧ Fr No w w'
theorem Blk.pair {w : World} {g : Nat} {t : TypeId} {a b : Value} (h : Blk w g t #[a, b]) : w.cell? ⟨g, 0, none⟩ = some a ∧ w.cell? ⟨g, 1, none⟩ = some b ∧ ∀ i, w.frozen? ⟨g, i, none⟩ = false := ⟨h.cell 0, h.cell 1, h.frozen⟩
theorem Rd.keepC {size : Nat} {w w' : World} {v : Value} {n : Nat} {xs : List Value} {S : Nat → Prop} (h : Rd size w v n xs) (hs : 0 < size) (hf : Fr S w w') (hS : ∀ x cs t fr, w.heap[x]? = some (.cells cs t fr) → ¬ S x) : Rd size w' v n xs := by
  obtain ⟨A, c, rfl, hc, hl, hr⟩ := h
  refine ⟨A, c, rfl, hc, hl, fun hn => ?_⟩
  obtain ⟨b, off, rfl, hb, hx⟩ := hr hn
  have hlt : 0 < xs.length := by rw [hl]; exact Nat.mul_pos hn hs
  have h0 := hx 0 _ (List.getElem?_eq_getElem hlt)
  have hns : ¬ S b := by
    unfold World.cell? at h0
    simp only [Option.isSome_none, Bool.false_eq_true, if_false] at h0
    cases hh : w.heap[b]? with
    | none => rw [hh] at h0; simp at h0
    | some o =>
      cases o with
      | cells cs t fr => exact hS b cs t fr hh
      | _ => rw [hh] at h0; simp at h0
  exact ⟨b, off, rfl, Nat.lt_of_lt_of_le hb hf.size, fun j u hu => (hf.cell hb hns _).trans (hx j u hu)⟩
/-- needs: the functions', their sums -/
def ncell (n : Int × Int) : List Value := [.int .i64 n.1, .int .u32 n.2]
theorem ncell_len (n : Int × Int) : (ncell n).length = 2 := rfl
def ncells (l : List (Int × Int)) : List Value := rows ncell l
theorem ncells_one (l : List (Int × Int)) : ∀ u ∈ ncells l, u.oneCell' = true := rows_one_cell (by intro x u hu; simp [ncell] at hu; rcases hu with rfl | rfl <;> rfl) l
def RdN (w : World) (v : Value) (l : List (Int × Int)) : Prop := Rd 2 w v l.length (ncells l)
def OwnN (w : World) (v : Value) (l : List (Int × Int)) : Prop := Own 48 2 w v l.length (ncells l)
theorem RdN.at_ {w : World} {A : Option Addr} {l : List (Int × Int)} {c k : Nat} (h : RdN w (.slice A l.length c) l) (hk : k < l.length) :
    ∃ b off z s, A = some ⟨b, off, none⟩ ∧ l[k]? = some (z, s) ∧ w.cell? ⟨b, off + k * 2, none⟩ = some (.int .i64 z) ∧ w.cell? ⟨b, off + k * 2 + 1, none⟩ = some (.int .u32 s) := by
  have hz : l[k]? = some l[k] := List.getElem?_eq_getElem hk
  obtain ⟨A1, cap, hv, hle, hfl, hcell⟩ := h
  obtain ⟨b, off, ha, hlt, hcl⟩ := hcell (by omega)
  injection hv with hv
  subst hv
  refine ⟨b, off, l[k].1, l[k].2, ha, hz, ?_, ?_⟩
  · exact hcl _ _ (rows_get ncell_len hz 0 (by omega))
  · rw [Nat.add_assoc]; exact hcl _ _ (rows_get ncell_len hz 1 (by omega))
theorem RdN.keep {w w' : World} {v : Value} {l : List (Int × Int)} (h : RdN w v l) (hf : Fr No w w') : RdN w' v l := Rd.keep h hf (fun k _ => not_no k)
set_option maxRecDepth 100000 in
set_option maxHeartbeats 1000000 in
theorem pred_c (w : World) (z s : Int) (pb : Nat) (fn : Int) (hp : w.cell? ⟨pb, 0, none⟩ = some (.int .i64 fn)) :
    Calls Try.prog 44 #[.agg #[.int .i64 z, .int .u32 s], .pointer (some ⟨pb, 0, none⟩)] w fun e w' => e = .returned (.bool (z == fn)) ∧ Fr No w w' := by
  have k0 : (w.alloc (.cells #[.int .i64 z, .int .u32 s] 48)).cell? ⟨pb, 0, none⟩ = some (.int .i64 fn) := Lib.cell?_alloc_some _ hp
  go_enter Try.func44, Try.ntmps44
  go_wp2_with fail
  go_ret
  exact ⟨rfl, (Fr.refl No w).alloc _⟩
set_option maxRecDepth 100000 in
set_option maxHeartbeats 1000000 in
theorem index_c {w : World} {v : Value} {l : List (Int × Int)} (h : RdN w v l) (hl : l.length ≤ 140737488355328) (pb : Nat) (fn : Int) (hb : Blk w pb 3 #[.int .i64 fn]) :
    Calls Try.prog 45 #[v, .func (.func 44) #[] #[.pointer (some ⟨pb, 0, none⟩)]] w fun e w' =>
      ∃ k : Int, e = .returned (.int .i64 k) ∧ Fr No w w' ∧ ((k = -1 ∧ l.any (fun p => p.1 == fn) = false) ∨ (0 ≤ k ∧ l.any (fun p => p.1 == fn) = true)) := by
  have H := hid h
  obtain ⟨A, c, rfl, hc, _⟩ := h
  have HB := hid hb
  clear hb
  go_enter Try.func45, Try.ntmps45
  go_wp2_with fail
  go_loopg [8] l.length (fun q v8 w' => ∃ i : Nat, v8 = .int .i64 i ∧ i ≤ l.length ∧ q = l.length - i ∧ Hid (Fr No w w') ∧ Hid ((l.take i).any (fun p => p.1 == fn) = false))
  case atStart => exact ⟨0, rfl, by omega, rfl, Fr.refl No _, by simp [Hid]⟩
  case round =>
    obtain ⟨i, rfl, hi, hq, HF, HA⟩ := hrel
    have HQ := hid hq
    clear hq
    by_cases c1 : i < l.length
    · have c1' : (i : Int) < l.length := by omega
      obtain ⟨b, off, z, s, rfl, hz, k0, k1⟩ := (H.out.keep HF.out).at_ c1
      have HZ := hid hz
      clear hz
      go_wp2_with fail
      refine (pred_c wr z s pb fn ((HB.out.keep HF.out (not_no _)).cell 0)).mono ?_
      rintro e w2 ⟨rfl, F2⟩
      have HF2 := hid (HF.out.fresh_no F2)
      clear F2 k0 k1
      by_cases c2 : z = fn
      · have d2 : (z == fn) = true := by simpa using c2
        have HC := hid (show l.any (fun p => p.1 == fn) = true from List.any_eq_true.2 ⟨(z, s), List.mem_of_getElem? HZ.out, d2⟩)
        clear c2
        go_wp2_with fail
        go_ret
        exact ⟨_, rfl, HF2.out, .inr ⟨by omega, HC.out⟩⟩
      · have d2 : (z == fn) = false := by simpa using c2
        have HN := hid (show (l.take (i + 1)).any (fun p => p.1 == fn) = false by
          rw [List.take_add_one, HZ.out, List.any_append, HA.out]
          simp [d2])
        clear c2
        go_wp2_with fail
        go_roundg (l.length - (i + 1))
        case measure => have := HQ.out; omega
        case rel => exact ⟨i + 1, by go_num, by omega, rfl, HF2, HN⟩
    · have c1' : ¬ (i : Int) < l.length := by omega
      have HE := hid (show l.any (fun p => p.1 == fn) = false by
        have := HA.out
        rwa [List.take_of_length_le (by omega)] at this)
      go_wp2_with fail
      go_ret
      exact ⟨-1, rfl, HF.out, .inl ⟨rfl, by simpa using HE.out⟩⟩
set_option maxRecDepth 100000 in
set_option maxHeartbeats 1000000 in
theorem contains_c {w : World} {v : Value} {l : List (Int × Int)} (h : RdN w v l) (hl : l.length ≤ 140737488355328) (pb : Nat) (fn : Int) (hb : Blk w pb 3 #[.int .i64 fn]) :
    Calls Try.prog 43 #[v, .func (.func 44) #[] #[.pointer (some ⟨pb, 0, none⟩)]] w fun e w' => e = .returned (.bool (l.any (fun p => p.1 == fn))) ∧ Fr No w w' := by
  have H := hid h
  have HB := hid hb
  clear h hb
  go_enter Try.func43, Try.ntmps43
  go_wp2_with fail
  refine (index_c H.out hl pb fn HB.out).mono ?_
  rintro e w1 ⟨k, rfl, f1, hk⟩
  have HF := hid f1
  clear f1
  rcases hk with ⟨rfl, hk⟩ | ⟨hk, hk2⟩
  · have HK := hid hk
    clear hk
    go_wp2_with fail
    go_ret
    exact ⟨by rw [HK.out]; rfl, HF.out⟩
  · have HK := hid hk2
    have d : (0 : Int) ≤ k := hk
    clear hk2
    go_wp2_with fail
    go_ret
    exact ⟨by rw [HK.out]; rfl, HF.out⟩
/-- does code rest on a function? -/
def restsB (f : Int) (needs : List (Int × Int)) (fn : Int) : Bool := (f == fn) || needs.any (fun p => p.1 == fn)
set_option maxRecDepth 100000 in
set_option maxHeartbeats 1000000 in
theorem rests_c {w : World} {A Ac Ax : Option Addr} {c nc cc nx cx : Nat} {l : List (Int × Int)} (h : RdN w (.slice A l.length c) l) (hl : l.length ≤ 140737488355328) (f regs fn : Int) :
    Calls Try.prog 32 #[.agg #[.int .i64 f, .int .i64 regs, .slice Ac nc cc, .slice Ax nx cx, .slice A l.length c], .int .i64 fn] w fun e w' => e = .returned (.bool (restsB f l fn)) ∧ Fr No w w' := by
  have HF := hid (show Fr No w ((w.alloc (.cells #[.int .i64 f, .int .i64 regs, .slice Ac nc cc, .slice Ax nx cx, .slice A l.length c] 26)).alloc (.cells #[.int .i64 fn] 3)) from ((Fr.refl No w).alloc _).alloc _)
  have H := hid (h.keep HF.out)
  have HB := hid (show Blk ((w.alloc (.cells #[.int .i64 f, .int .i64 regs, .slice Ac nc cc, .slice Ax nx cx, .slice A l.length c] 26)).alloc (.cells #[.int .i64 fn] 3)) (w.heap.size + 1) 3 #[.int .i64 fn] from by
    have := Blk.new (w.alloc (.cells #[.int .i64 f, .int .i64 regs, .slice Ac nc cc, .slice Ax nx cx, .slice A l.length c] 26)) 3 #[.int .i64 fn]
    rwa [show (w.alloc (.cells #[.int .i64 f, .int .i64 regs, .slice Ac nc cc, .slice Ax nx cx, .slice A l.length c] 26)).heap.size = w.heap.size + 1 by simp] at this)
  clear h
  unfold restsB
  by_cases e : f = fn
  · subst e
    go_enter Try.func32, Try.ntmps32
    go_wp2_with fail
    go_ret
    exact ⟨by simp, HF.out⟩
  · have d : (f == fn) = false := by rw [beq_eq_false_iff_ne]; exact e
    go_enter Try.func32, Try.ntmps32
    go_wp2_with fail
    refine (contains_c H.out hl _ fn HB.out).mono ?_
    rintro e w1 ⟨rfl, f1⟩
    have HF1 := hid (HF.out.fresh_no f1)
    clear f1
    go_wp2_with fail
    go_ret
    exact ⟨by simp [d], HF1.out⟩
end Go.Proofs.Ytfmoagpfgkokcaa
