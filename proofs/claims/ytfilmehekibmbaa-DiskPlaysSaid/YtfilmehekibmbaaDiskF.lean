import Derived.Test.YtfilmehekibmbaaDiskD
import Derived.Test.YtfilmehekibmbaaDiskE
/-! A disk that is new since w0; the chapter's examples come out. -/
namespace Go.Proofs.Ytfilmehekibmbaa
open Go.RowKit
set_option linter.unusedVariables false
set_option linter.unusedSimpArgs false

/-- a disk that is new since w0, all else as it was -/
structure St (w0 w : World) (g : Nat) (v : Value) (d : DSt) : Prop where
  disk : IsDisk w g v d
  fr : Fr No w0 w
  gnew : w0.heap.size ≤ g
  vnew : ∀ k, Of v k → w0.heap.size ≤ k
section
variable {w0 w w1 w2 : World} {g : Nat} {v : Value} {d : DSt}
theorem IsDisk.its_lt (h : IsDisk w g v d) {k : Nat} (hk : Its g v k) : k < w.heap.size := by
  rcases hk with rfl | hk
  · exact h.lt
  · exact h.own.lt k hk
theorem its_new (h : IsDisk w g v d) {a b n : Nat} : 0 < n → ∀ k, Of (.slice (some ⟨w.heap.size, 0, none⟩) a b) k → ¬ Its g v k := fun _ k hk hi => by
  have h1 := h.its_lt hi
  have h2 := Of_some.1 hk
  simp at h2
  omega
theorem St.new {n : Int} (h : IsDisk w1 g v (newD n)) (hf : Fr No w0 w1) (hg : w0.heap.size ≤ g) (hv : ∀ k, ¬ Of v k) : St w0 w1 g v (newD n) := ⟨h, hf, hg, fun k hk => absurd hk (hv k)⟩
theorem St.its (h : St w0 w g v d) {k : Nat} (hk : Its g v k) : w0.heap.size ≤ k := by
  rcases hk with rfl | hk
  · exact h.gnew
  · exact h.vnew k hk
theorem St.keep (h : St w0 w g v d) (hf : Fr No w w1) : St w0 w1 g v d := ⟨h.disk.keep_no hf, h.fr.fresh_no hf, h.gnew, h.vnew⟩
theorem St.to (h : St w0 w g v d) {v' : Value} {d' : DSt} (hd : IsDisk w1 g v' d') (hf : Fr (Its g v) w w1) (hg : Grows w (Of v) v') : St w0 w1 g v' d' :=
  ⟨hd, h.fr.fresh hf (fun k hk => h.its hk), h.gnew, fun k hk => by rcases hg k hk with h1 | h1; exact h.vnew k h1; exact Nat.le_trans h.fr.size h1⟩
theorem St.step (h : St w0 w g v d) {r : DSt × Nat} {en : Ending} (hF : Fr No w w1) (hr : RetD w1 g v r en w2) : ∃ v2, en = .returned (.int .i64 r.2) ∧ St w0 w2 g v2 r.1 := by
  obtain ⟨v2, he, hd, hf, hg⟩ := hr
  exact ⟨v2, he, (h.keep hF).to hd hf hg⟩
theorem St.step0 (h : St w0 w g v d) {d' : DSt} {en : Ending} (hF : Fr No w w1) (hr : RetD0 w1 g v d' en w2) : ∃ v2, en = .returned (.tuple #[]) ∧ St w0 w2 g v2 d' := by
  obtain ⟨v2, he, hd, hf, hg⟩ := hr
  exact ⟨v2, he, (h.keep hF).to hd hf hg⟩
end

set_option maxRecDepth 100000 in
set_option maxHeartbeats 1000000 in
theorem reads_c {w : World} {g : Nat} {v : Value} {d : DSt} (h : IsDisk w g v d) (bs : List UInt8) (hd : d.down = false) (hb : d.bytes = bs) :
    Calls Try.prog 14 #[.pointer (some ⟨g, 0, none⟩), .string (strOf bs)] w (RetT w) := by
  have H := hid h
  have HR := hid (show readD d = (bs, 0) by unfold readD; rw [hd, hb]; rfl)
  have HB := hid hb
  clear h hb hd
  have ks : (strOf bs).size = bs.length := rfl
  go_enter Try.func14, Try.ntmps14
  go_wp2_with fail
  refine (read_c H.out _ HR.out).mono ?_
  rintro e w1 ⟨v1, rfl, A, B, C⟩
  have k1 := run_convert_bytes (P := Try.prog) w1 26 5 Try.underlying26 Try.underlying5 v1 bs A.rd 9 Try.underlying9
  have F1 := hid B
  have H1 := hid (H.out.keep_no B)
  clear A B C
  go_wp2_with fail
  refine (size_c H1.out).mono ?_
  rintro e wx ⟨rfl, rfl⟩
  rw [HB.out]
  go_wp2_with fail
  go_ret
  exact ⟨rfl, F1.out⟩

set_option maxRecDepth 100000 in
set_option maxHeartbeats 1000000 in
theorem awake_c (w : World) : Calls Try.prog 20 #[] w (RetT w) := by
  have kc := run_convert_const (P := Try.prog) 26 5 Try.underlying26 Try.underlying5
  go_enter Try.func20, Try.ntmps20
  go_wp2_with fail
  refine (new_c 100 (by omega) (by omega) _).mono ?_
  rintro e w1 ⟨g, v1, rfl, I, F, hgn, hvn⟩
  have S1 := hid (St.new I F hgn hvn)
  clear I F hgn hvn
  go_wp2_with fail
  refine (append_c (S1.out.disk.keep_no ((Fr.refl No _).alloc _)) _ [97, 98, 99] ((RdB.lit_ _ _ _ _ _ rfl rfl _ (by first | rfl | simp))) (its_new S1.out.disk) (by simp) (⟨100, [97, 98, 99], 0, -1, false⟩, 0) rfl).mono ?_
  rintro e w2 hr
  obtain ⟨v2, rfl, S'⟩ := S1.out.step ((Fr.refl No _).alloc _) hr
  have S2 := hid S'
  clear S' hr
  go_wp2_with fail
  refine (sync_c S2.out.disk (⟨100, [97, 98, 99], 3, -1, false⟩, 0) rfl).mono ?_
  rintro e w3 hr
  obtain ⟨v3, rfl, S'⟩ := S2.out.step (Fr.refl No _) hr
  have S3 := hid S'
  clear S' hr
  go_wp2_with fail
  refine (append_c (S3.out.disk.keep_no ((Fr.refl No _).alloc _)) _ [100, 101] ((RdB.lit_ _ _ _ _ _ rfl rfl _ (by first | rfl | simp))) (its_new S3.out.disk) (by simp) (⟨100, [97, 98, 99, 100, 101], 3, -1, false⟩, 0) rfl).mono ?_
  rintro e w4 hr
  obtain ⟨v4, rfl, S'⟩ := S3.out.step ((Fr.refl No _).alloc _) hr
  have S4 := hid S'
  clear S' hr
  go_wp2_with fail
  refine (size_c S4.out.disk).mono ?_
  rintro e wx ⟨rfl, rfl⟩
  go_wp2_with fail
  refine (synced_c S4.out.disk).mono ?_
  rintro e wx ⟨rfl, rfl⟩
  go_wp2_with fail
  refine (crash_c S4.out.disk 1 ⟨100, [97, 98, 99, 100], 4, -1, false⟩ rfl).mono ?_
  rintro e w5 hr
  obtain ⟨v5, rfl, S'⟩ := S4.out.step0 (Fr.refl No _) hr
  have S5 := hid S'
  clear S' hr
  go_wp2_with fail
  refine (reads_c S5.out.disk [97, 98, 99, 100] rfl rfl).mono ?_
  rintro e w6 ⟨rfl, B⟩
  have S6 := hid (S5.out.keep B)
  clear B
  go_wp2_with fail
  refine (synced_c S6.out.disk).mono ?_
  rintro e wx ⟨rfl, rfl⟩
  go_wp2_with fail
  refine (arm_c S6.out.disk 1 (by omega) ⟨100, [97, 98, 99, 100], 4, 1, false⟩ rfl).mono ?_
  rintro e w7 hr
  obtain ⟨v7, rfl, S'⟩ := S6.out.step0 (Fr.refl No _) hr
  have S7 := hid S'
  clear S' hr
  go_wp2_with fail
  refine (append_c (S7.out.disk.keep_no ((Fr.refl No _).alloc _)) _ [120] ((RdB.lit_ _ _ _ _ _ rfl rfl _ (by first | rfl | simp))) (its_new S7.out.disk) (by simp) (⟨100, [97, 98, 99, 100, 120], 4, 0, false⟩, 0) rfl).mono ?_
  rintro e w8 hr
  obtain ⟨v8, rfl, S'⟩ := S7.out.step ((Fr.refl No _).alloc _) hr
  have S8 := hid S'
  clear S' hr
  go_wp2_with fail
  refine (append_c (S8.out.disk.keep_no ((Fr.refl No _).alloc _)) _ [121] ((RdB.lit_ _ _ _ _ _ rfl rfl _ (by first | rfl | simp))) (its_new S8.out.disk) (by simp) (⟨100, [97, 98, 99, 100, 120], 4, -1, true⟩, 15) rfl).mono ?_
  rintro e w9 hr
  obtain ⟨v9, rfl, S'⟩ := S8.out.step ((Fr.refl No _).alloc _) hr
  have S9 := hid S'
  clear S' hr
  go_wp2_with fail
  refine (read_c S9.out.disk ([], 15) rfl).mono ?_
  rintro e w10 ⟨r10, rfl, A, B, C⟩
  have S10 := hid (S9.out.keep B)
  have O10 := hid A
  clear A B C
  go_wp2_with fail
  refine (down_c S10.out.disk).mono ?_
  rintro e wx ⟨rfl, rfl⟩
  go_wp2_with fail
  refine (crash_c S10.out.disk 0 ⟨100, [97, 98, 99, 100], 4, -1, false⟩ rfl).mono ?_
  rintro e w11 hr
  obtain ⟨v11, rfl, S'⟩ := S10.out.step0 (Fr.refl No _) hr
  have S11 := hid S'
  clear S' hr
  go_wp2_with fail
  refine (down_c S11.out.disk).mono ?_
  rintro e wx ⟨rfl, rfl⟩
  go_wp2_with fail
  refine (reads_c S11.out.disk [97, 98, 99, 100] rfl rfl).mono ?_
  rintro e w12 ⟨rfl, B⟩
  have S12 := hid (S11.out.keep B)
  clear B
  go_wp2_with fail
  go_ret
  exact ⟨rfl, S12.out.fr⟩
end Go.Proofs.Ytfilmehekibmbaa
