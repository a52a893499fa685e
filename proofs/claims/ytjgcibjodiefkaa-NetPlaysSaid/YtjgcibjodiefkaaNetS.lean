import Derived.Test.YtjgcibjodiefkaaNetR
/-! The document's net, by value: without, Take, Copy, Forget. -/
namespace Go.Proofs.Ytjgcibjodiefkaa
open Go.RowKit
set_option linter.unusedVariables false
set_option linter.unusedSimpArgs false

/-- the lists that a loop of the document's gathers: rows of their own, new; elements of an older list -/
structure Gath (w0 w : World) (v : Value) (m r : List Gr) : Prop where
  own : Own 29 3 w v r.length (rows Gr.cells r)
  new : ∀ k, Of v k → w0.heap.size + 2 ≤ k
  sub : ∀ p ∈ r, p ∈ m
theorem Gath.push {w0 w w1 w2 : World} {v v2 : Value} {m r : List Gr} {p : Gr} (h : Gath w0 w v m r) (hw : w0.heap.size + 2 ≤ w1.heap.size) (ho : Own 29 3 w2 v2 (r.length + 1) (rows Gr.cells r ++ p.cells)) (hg : ∀ k, Of v2 k → Of v k ∨ k = w1.heap.size) (hp : p ∈ m) : Gath w0 w2 v2 m (r ++ [p]) := by
  refine ⟨by rw [List.length_append, rows_append, rows_one]; exact ho, fun k hk => ?_, fun q hq => ?_⟩
  · rcases hg k hk with h2 | rfl
    · exact h.new k h2
    · exact hw
  · rcases List.mem_append.1 hq with hq | hq
    · exact h.sub q hq
    · rw [List.mem_singleton.1 hq]; exact hp

/-- all but the k-th of the first i -/
def but (m : List Gr) (k : Int) (i : Nat) : List Gr := ((m.take i).zipIdx.filter (fun q => (q.2 : Int) != k)).map (·.1)
theorem but_succ (m : List Gr) (k : Int) (i : Nat) (p : Gr) (hp : m[i]? = some p) : but m k (i + 1) = if (i : Int) = k then but m k i else but m k i ++ [p] := by
  have hi : i < m.length := (List.getElem?_eq_some_iff.1 hp).1
  unfold but
  rw [List.take_add_one, hp]
  simp only [Option.toList_some, List.zipIdx_append, List.filter_append, List.map_append, List.length_take, Nat.zero_add]
  rw [Nat.min_eq_left (by omega)]
  split
  · rename_i h
    simp [h]
  · rename_i h
    simp [h]
theorem but_sub (m : List Gr) (k : Int) (i : Nat) : ∀ p ∈ but m k i, p ∈ m := by
  intro p hp
  unfold but at hp
  simp only [List.mem_map, List.mem_filter] at hp
  obtain ⟨q, ⟨hq, _⟩, rfl⟩ := hp
  have := List.fst_mem_of_mem_zipIdx hq
  exact List.mem_of_mem_take this
theorem but_len (m : List Gr) (k : Int) (i : Nat) : (but m k i).length ≤ i := by
  unfold but
  rw [List.length_map]
  refine Nat.le_trans (List.length_filter_le _ _) ?_
  simp
  omega
theorem but_all (m : List Gr) (k : Nat) (hk : k < m.length) : but m k m.length = m.eraseIdx k := by
  have key : ∀ i, i ≤ m.length → but m k i = if i ≤ k then m.take i else (m.take i).eraseIdx k := by
    intro i
    induction i with
    | zero => intro _; simp [but]
    | succ i ih =>
      intro hi
      have hp : m[i]? = some (m[i]'(by omega)) := by simp
      rw [but_succ m k i _ hp, ih (by omega)]
      by_cases h1 : i + 1 ≤ k
      · rw [if_neg (by omega), if_pos (by omega), if_pos h1, List.take_add_one, hp]
        rfl
      · rw [if_neg h1]
        by_cases h2 : i = k
        · subst h2
          rw [if_pos rfl, if_pos (Nat.le_refl _), List.take_add_one, hp, List.eraseIdx_append_of_length_le (by rw [List.length_take]; exact Nat.min_le_left _ _)]
          simp [Nat.min_eq_left (Nat.le_of_lt hk)]
        · rw [if_neg (by omega), if_neg (by omega), List.take_add_one, hp, List.eraseIdx_append_of_lt_length (by simp; omega)]
          rfl
  rw [key _ (Nat.le_refl _), if_neg (by omega), List.take_length]

set_option maxRecDepth 100000 in
set_option maxHeartbeats 2000000 in
theorem without_c {w : World} {v : Value} {m : List Gr} (h : RefL w v m) (hm : m.length ≤ 4096) (nodes : Int) (k : Nat) (hk : k < m.length) :
    Calls Try.prog 36 #[refV nodes v, .int .i64 k] w fun e w' => ∃ v', e = .returned (refV nodes v') ∧ RefTo w w' v m v' (m.eraseIdx k) ((m.eraseIdx k).map Gr.abs) := by
  obtain ⟨A, c, rfl, hc, hcm⟩ := h.own.slice
  have H := hid h
  clear h
  unfold refV
  have hFW : Fr No w ((w.alloc (.cells #[.int .i64 nodes, .slice A m.length c] 40)).alloc (.cells #[.int .i64 0, .slice none 0 0] 40)) := ((Fr.refl No w).alloc _).alloc _
  have HFW := hid hFW
  have B4 := hid ((Blk.new w 40 #[.int .i64 nodes, .slice A m.length c]).alloc (.cells #[.int .i64 0, .slice none 0 0] 40))
  have B8 := hid (Blk.new_ (w.alloc (.cells #[.int .i64 nodes, .slice A m.length c] 40)) 40 #[.int .i64 0, .slice none 0 0] (w.heap.size + 1) (by simp))
  clear hFW
  go_enter Try.func36, Try.ntmps36
  go_wp2_with fail
  go_loopg [5, 6] m.length (fun q v5 v6 w' => ∃ i : Nat, v6 = .int .i64 i ∧ i ≤ m.length ∧ q = m.length - i ∧ Hid (Fr No w w') ∧ Hid (w.heap.size + 2 ≤ w'.heap.size) ∧ Hid (Gath w w' v5 m (but m k i)) ∧
    Hid (Blk w' w.heap.size 40 #[.int .i64 nodes, .slice A m.length c]) ∧ Hid (Blk w' (w.heap.size + 1) 40 #[.int .i64 0, .slice none 0 0]))
  case atStart => exact ⟨0, rfl, by omega, rfl, HFW.out, by simp [Hid], ⟨by simpa [but, rows] using Own.nil _ _ _, fun k hk => absurd hk Of_none, by simp [but]⟩, B4.out, B8.out⟩
  case round =>
    clear B4 B8
    obtain ⟨i, rfl, hi, hq, HF, HSZ, HG, HB4, HB8⟩ := hrel
    have HQ := hid hq
    clear hq
    obtain ⟨A5, c5, rfl, hc5, hm5⟩ := HG.out.own.slice
    obtain ⟨a0, a1, af⟩ := HB4.out.two
    by_cases d1 : i < m.length
    · have d2 : (i : Int) < m.length := by omega
      obtain ⟨b, off, c1', p, A', c', hv, hc', hp, hpm, hpv, r0, r1, r2⟩ := rdG_at (H.out.keep HF.out).own.rd (fun q hq => ((H.out.keep HF.out).data q hq).rd) d1
      injection hv with hv _ hcc
      subst hv hcc
      by_cases d3 : i = k
      · have d4 : ((i : Int) != (k : Int)) = false := by simp; omega
        have HT := hid (show but m k (i + 1) = but m k i by rw [but_succ m k i p hp, if_pos (by omega)])
        clear d3 hp hpm hpv
        go_wp2_with fail
        go_roundg (m.length - (i + 1))
        case measure => have := HQ.out; omega
        case rel => exact ⟨i + 1, by go_num, by omega, rfl, HF, HSZ, by rw [HT.out]; exact HG, HB4, HB8⟩
      · have d4 : ((i : Int) != (k : Int)) = true := by simp; omega
        have HT := hid (show but m k (i + 1) = but m k i ++ [p] by rw [but_succ m k i p hp, if_neg (by omega)])
        have hl8 := but_len m k i
        generalize but m k i = r8 at HG HT hc5 hl8 ⊢
        have HL8 := hid hl8
        have OO := hid (HG.out.own.keep ((Fr.refl No wr).alloc (.cells #[.int .i64 p.a, .int .i64 p.z, .slice A' p.b.length c'] 29)) (fun k _ => not_no k))
        have HM2 := hid (show (⟨p.a, p.z, .slice A' p.b.length c', p.b⟩ : Gr) = p by rw [← hpv])
        have HPM := hid hpm
        clear d3 hp hpm hpv hl8
        go_wp2_with (at_builtin; refine wpl_app _ rfl (.tmp 17) (.tmp 23) 38 rfl 29 _ 3 40 Try.underlying38 infoG rfl (.slice A5 r8.length c5) r8.length (rows Gr.cells r8) rfl OO.out (.slice (some ⟨wr.heap.size, 0, none⟩) 1 1) 1 (Gr.cells ⟨p.a, p.z, .slice A' p.b.length c', p.b⟩) rfl (Rd.lit1 wr 29 #[.int .i64 p.a, .int .i64 p.z, .slice A' p.b.length c'] 3 rfl) (by intro u hu; simp only [Gr.cells, List.mem_cons, List.not_mem_nil, or_false] at hu; rcases hu with rfl | rfl | rfl <;> rfl) (by have := HL8.out; simp only [maxLen]; omega) (by have := HL8.out; omega) ?_; intro v12 w12 o12 f12 g12)
        rw [HM2.out] at o12
        have G12 := hid (HG.out.push (w1 := wr.alloc (.cells #[.int .i64 p.a, .int .i64 p.z, .slice A' p.b.length c'] 29)) (by have := HSZ.out; simp; omega) o12 g12 HPM.out)
        have FA : Fr (Of (.slice A5 r8.length c5)) wr w12 := ((Fr.refl (Of (.slice A5 r8.length c5)) wr).alloc _).trans f12 (fun _ _ h => h)
        have F12 := hid (HF.out.fresh FA (fun k hk => by have := HG.out.new k hk; omega))
        have SZ12 := hid (Nat.le_trans HSZ.out FA.size)
        have B412 := hid (HB4.out.keep FA (fun h => by have := HG.out.new _ h; omega))
        have B812 := hid (HB8.out.keep FA (fun h => by have := HG.out.new _ h; omega))
        clear o12 f12 g12 FA OO
        go_wp2_with fail
        go_roundg (m.length - (i + 1))
        case measure => have := HQ.out; omega
        case rel => exact ⟨i + 1, by go_num, by omega, rfl, F12, SZ12, by rw [HT.out]; exact G12, B412, B812⟩
    · have hi2 : i = m.length := by omega
      subst hi2
      clear d1
      rw [but_all m k hk] at HG hc5 ⊢
      have hsub : ∀ p ∈ m.eraseIdx k, p ∈ m := HG.out.sub
      obtain ⟨b0, b1, bf⟩ := HB8.out.two
      go_wp2_with fail
      refine ⟨rfl, ?_⟩
      refine ⟨.agg #[.int .i64 nodes, .slice A5 (m.eraseIdx k).length c5], ?_, ?_⟩
      · have hres : Try.f36.results = #[.cell 4 40] := rfl
        simp [results, hres, asAddr]
        try go_simp
      · have FZ : ∀ x0 x1 x2 : Value, Fr (fun k => k = w.heap.size ∨ k = w.heap.size + 1) wr (((wr.setCell ⟨w.heap.size, 1, none⟩ x0).setCell ⟨w.heap.size + 1, 0, none⟩ x1).setCell ⟨w.heap.size + 1, 1, none⟩ x2) := fun _ _ _ => Fr.setCell (Fr.setCell (Fr.setCell (Fr.refl _ wr) (fun _ => .inl rfl) _) (fun _ => .inr rfl) _) (fun _ => .inr rfl) _
        refine ⟨_, rfl, ⟨⟨?_, ?_⟩, rfl, ?_, ?_, ?_⟩⟩
        · refine HG.out.own.keep (FZ _ _ _) ?_
          rintro q hq (rfl | rfl)
          · have := HG.out.new _ hq; omega
          · have := HG.out.new _ hq; omega
        · intro q hq
          have hq3 := (H.out.keep HF.out).data q (hsub q hq)
          refine hq3.keep (FZ _ _ _) ?_
          rintro k' hk' (rfl | rfl)
          · exact hq3.ne_ HB4.out (by decide) hk'
          · exact hq3.ne_ HB8.out (by decide) hk'
        · exact HF.out.fresh (FZ _ _ _) (by rintro q (rfl | rfl) <;> omega)
        · exact fun q hq => .inr (by have := HG.out.new q hq; omega)
        · exact fun q hq => .inl (hsub q hq)
end Go.Proofs.Ytjgcibjodiefkaa
