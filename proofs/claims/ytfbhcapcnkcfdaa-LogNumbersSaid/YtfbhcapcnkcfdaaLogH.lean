import Derived.Test.YtfbhcapcnkcfdaaLogG
import Derived.Test.YtfbhcapcnkcfdaaLogEnded
/-! What is sure, and what a crash leaves of it. -/
namespace Go.Proofs.Ytfbhcapcnkcfdaa
open Go.RowKit
set_option linter.unusedVariables false
set_option linter.unusedSimpArgs false

/-- bytes that came in, or that Open made -/
def Elem (w0 w : World) (v : Value) (p : Value × List UInt8) : Prop := InB w0 p.1 p.2 ∨ (OwnB 5 w p.1 p.2 ∧ ∀ k, Of p.1 k → ¬ Of v k)
structure Sure (w0 w : World) (v vs : Value) (qs : List (Value × List UInt8)) : Prop where
  row : Own 22 1 w vs qs.length (qs.map (·.1))
  new : ∀ k, Of vs k → w0.heap.size ≤ k
  data : ∀ p ∈ qs, Elem w0 w v p
section
variable {w0 w w1 : World} {g gl base : Nat} {v v' vs : Value} {d : DSt} {l : LSt} {qs : List (Value × List UInt8)}
theorem Elem.rd {p : Value × List UInt8} (h : Elem w0 w v p) (hf : Fr No w0 w) : RdB w p.1 p.2 := by
  rcases h with h | h
  · exact h.1.too hf
  · exact h.1.rd
theorem Sure.rds (h : Sure w0 w v vs qs) (hf : Fr No w0 w) : RdLs w vs qs := ⟨h.row.rd, fun p hp => (h.data p hp).rd hf⟩
theorem Sure.turn (h : Sure w0 w v vs qs) (hd : IsDisk w g v d) {S : Nat → Prop} (hf : Fr S w w1) (hS : ∀ k, S k → Its g v k ∨ ∃ t cs, Blk w k t cs ∧ 22 ≠ t ∧ 5 ≠ t) (hg : Grows w (Of v) v') : Sure w0 w1 v' vs qs := by
  refine ⟨h.row.keep hf (fun k hk hs => ?_), h.new, fun p hp => ?_⟩
  · rcases hS k hs with (e | hi) | ⟨t, cs, hb, h1, _⟩
    · exact h.row.ne_ hd.blk (by decide) (e ▸ hk)
    · rcases hd.own.2 with ⟨h0, _⟩ | ⟨g', cap, cur, h0, hc, _⟩
      · rw [h0] at hi; exact Of_none hi
      · rw [h0] at hi
        rw [Of_some.1 hi] at hk
        exact h.row.ne_ (g' := g') (cs' := cur) hc (by decide) hk
    · exact h.row.ne_ hb h1 hk
  · rcases h.data p hp with h1 | ⟨h1, h2⟩
    · exact .inl h1
    · refine .inr ⟨h1.keep hf (fun k hk hs => ?_), fun k hk hi => ?_⟩
      · rcases hS k hs with (e | hi) | ⟨t, cs, hb, _, h3⟩
        · exact h1.ne_ hd.blk (by decide) (e ▸ hk)
        · exact h2 k hk hi
        · exact h1.ne_ hb h3 hk
      · rcases hg k hi with h3 | h3
        · exact h2 k hk h3
        · have := h1.lt k hk; omega
theorem Sure.keep (h : Sure w0 w v vs qs) (hf : Fr No w w1) : Sure w0 w1 v vs qs := ⟨h.row.keep hf (fun k _ => not_no k), h.new, fun p hp => by
  rcases h.data p hp with h1 | ⟨h1, h2⟩
  · exact .inl h1
  · exact .inr ⟨h1.keep hf (fun k _ => not_no k), h2⟩⟩
theorem Sure.disk (h : Sure w0 w v vs qs) (hd : IsDisk w g v d) (hf : Fr (Its g v) w w1) (hg : Grows w (Of v) v') : Sure w0 w1 v' vs qs := h.turn hd hf (fun _ h => .inl h) hg
theorem Sure.added (h : Sure w0 w v vs qs) (hd : IsDisk w g v d) (hl : IsLog w gl g l) (hf : Fr (fun k => Its g v k ∨ k = gl) w w1) (hg : Grows w (Of v) v') : Sure w0 w1 v' vs qs :=
  h.turn hd hf (fun k hk => by rcases hk with hk | rfl; exact .inl hk; exact .inr ⟨_, _, hl, by decide, by decide⟩) hg
theorem Sure.told (h : Told w base g v vs qs) (hb : w0.heap.size ≤ base) : Sure w0 w v vs qs :=
  ⟨h.own.row, fun k hk => Nat.le_trans hb (h.own.new k hk), fun p hp => .inr ⟨h.own.data p hp, h.sep p hp⟩⟩
theorem Sure.push {v1 : Value} (h : Sure w0 w v vs qs) (p : Value × List UInt8) (hp : InB w0 p.1 p.2) (hw : w0.heap.size ≤ w.heap.size) (o : Own 22 1 w1 v1 (qs.length + 1) (qs.map (·.1) ++ [p.1])) (hf : Fr (Of vs) w w1) (hg : ∀ k, Of v1 k → Of vs k ∨ k = w.heap.size) : Sure w0 w1 v v1 (qs ++ [p]) := by
  refine ⟨by simpa using o, fun k hk => by rcases hg k hk with h1 | h1; exact h.new k h1; omega, fun q hq => ?_⟩
  rcases List.mem_append.1 hq with hq | hq
  · rcases h.data q hq with h1 | ⟨h1, h2⟩
    · exact .inl h1
    · refine .inr ⟨h1.keep hf (fun k hk hk2 => ?_), h2⟩
      rcases h1.2 with ⟨h0, _⟩ | ⟨g', cap, cur, h0, hc, _⟩
      · rw [h0] at hk; exact Of_none hk
      · rw [h0] at hk
        rw [Of_some.1 hk] at hk2
        exact h.row.ne_ (g' := g') (cs' := cur) hc (by decide) hk2
  · rw [List.mem_singleton.1 hq]; exact .inl hp
end
theorem down_is {w : World} {g : Nat} {v : Value} {d : DSt} (h : IsDisk w g v d) (b : Bool) (hb : d.down = b) : Calls Try.prog 32 #[.pointer (some ⟨g, 0, none⟩)] w fun e w' => e = .returned (.bool b) ∧ w' = w :=
  (down_c h).mono fun _ _ hh => ⟨by rw [hh.1, hb], hh.2⟩

/-- all is synced: a crash takes nothing -/
theorem crash_all (most : Int) (rs : List (List UInt8)) (a : Int) (dn : Bool) (n : Int) : crashD ⟨most, recsB rs, (recsB rs).length, a, dn⟩ n = diskOf most rs (-1) := by
  unfold crashD diskOf
  have hl : left ⟨most, recsB rs, (recsB rs).length, a, dn⟩ n = (recsB rs).length := by unfold left; dsimp only; omega
  rw [hl]
  dsimp only
  rw [List.take_of_length_le (Nat.le_refl _)]
theorem kept_all (most : Int) (rs : List (List UInt8)) (hg : ∀ r ∈ rs, Good r) (a : Int) (dn : Bool) (n : Int) (dc : DSt) (h : crashD ⟨most, recsB rs, (recsB rs).length, a, dn⟩ n = dc) : openD dc = (diskOf most rs (-1), rs, 0) ∧ dc.down = false := by
  rw [crash_all] at h
  subst h
  exact ⟨openD_whole _ rs rfl rfl hg, rfl⟩
/-- one record is not: it is there whole, or not at all -/
theorem kept_one (most : Int) (rs : List (List UInt8)) (r : List UInt8) (hg : ∀ r ∈ rs, Good r) (hr : Good r) (a : Int) (dn : Bool) (n : Int) (dc : DSt) (h : crashD ⟨most, recsB rs ++ recB r, (recsB rs).length, a, dn⟩ n = dc) :
    ∃ rs2, openD dc = (diskOf most rs2 (-1), rs2, 0) ∧ dc.down = false ∧ (rs2 = rs ∨ rs2 = rs ++ [r]) := by
  have hl : left ⟨most, recsB rs ++ recB r, (recsB rs).length, a, dn⟩ n = (recsB rs).length + (min (max n 0) ((recB r).length : Int)).toNat := by
    unfold left
    dsimp only
    rw [List.length_append]
    congr 3
    omega
  obtain ⟨j, hj⟩ : ∃ j, (min (max n 0) ((recB r).length : Int)).toNat = j := ⟨_, rfl⟩
  have hjl : j ≤ (recB r).length := by omega
  unfold crashD at h
  rw [hl, hj] at h
  dsimp only at h
  have ht : (recsB rs ++ recB r).take ((recsB rs).length + j) = recsB rs ++ (recB r).take j := by
    rw [List.take_append, List.take_of_length_le (by omega), Nat.add_sub_cancel_left]
  rw [ht] at h
  subst h
  by_cases h1 : j = (recB r).length
  · refine ⟨rs ++ [r], ?_, rfl, .inr rfl⟩
    have hb : recsB rs ++ (recB r).take j = recsB (rs ++ [r]) := by rw [h1, List.take_of_length_le (Nat.le_refl _), recsB_snoc]
    have hlen : (recsB rs).length + j = (recsB (rs ++ [r])).length := by rw [recsB_snoc, List.length_append, h1]
    rw [hb, hlen]
    refine openD_whole (diskOf most (rs ++ [r]) (-1)) (rs ++ [r]) rfl rfl (fun x hx => ?_)
    rcases List.mem_append.1 hx with hx | hx
    · exact hg x hx
    · rw [List.mem_singleton.1 hx]; exact hr
  · refine ⟨rs, ?_, rfl, .inl rfl⟩
    by_cases h0 : j = 0
    · subst h0
      rw [List.take_zero, List.append_nil, Nat.add_zero]
      exact openD_whole (diskOf most rs (-1)) rs rfl rfl hg
    · rw [openD_torn ⟨most, recsB rs ++ (recB r).take j, (recsB rs).length + j, -1, false⟩ rs ((recB r).take j) rfl rfl hg (nextL_torn r hr j (by omega)) (by rw [List.length_take]; omega) (by simp)]
      rfl
theorem RdI.at_ {w : World} {A : Option Addr} {zs : List Int} {c k : Nat} (h : RdI w (.slice A zs.length c) zs) (hk : k < zs.length) :
    ∃ b off z, A = some ⟨b, off, none⟩ ∧ zs[k]? = some z ∧ w.cell? ⟨b, off + k, none⟩ = some (.int .i64 z) ∧ -9223372036854775808 ≤ z ∧ z ≤ 9223372036854775807 := by
  obtain ⟨b, off, c', u, h1, h2, h3, h4⟩ := h.1.at_ hk
  injection h1 with h1
  have hz : zs[k]? = some (zs[k]'hk) := by simp [hk]
  rw [List.getElem?_map, hz] at h3
  injection h3 with h3
  subst h3
  exact ⟨b, off, _, h1, hz, h4, h.2 _ (List.getElem_mem hk)⟩
theorem RdI.keep {w w' : World} {v : Value} {zs : List Int} (h : RdI w v zs) (hf : Fr No w w') : RdI w' v zs := ⟨h.1.keep hf (fun k _ => not_no k), h.2⟩
theorem RdLs.take {w : World} {A : Option Addr} {c m : Nat} {ps : List (Value × List UInt8)} (h : RdLs w (.slice A ps.length c) ps) (hm : m ≤ ps.length) (hc : m ≤ c) : RdLs w (.slice A m c) (ps.take m) := by
  have hr := Rd.take (m := m) (c' := c) (show Rd 1 w (.slice A ps.length c) ps.length (ps.map (·.1)) from h.1) hm hc
  refine ⟨?_, fun p hp => h.2 p (List.mem_of_mem_take hp)⟩
  rw [List.length_take, Nat.min_eq_left hm, List.map_take]
  simpa using hr
theorem b_true {x : Int} (h : x = 0) : (x == 0) = true := by rw [beq_iff_eq]; exact h
theorem b_false {x : Int} (h : ¬ x = 0) : (x == 0) = false := by rw [beq_eq_false_iff_ne]; exact h
end Go.Proofs.Ytfbhcapcnkcfdaa
