import Derived.Test.YtfilmehekibmbaaDiskP
/-! DiskTwice: behind a crash all is synced; another crash changes nothing. -/
namespace Go.Proofs.Ytfilmehekibmbaa
open Go.RowKit
set_option linter.unusedVariables false
set_option linter.unusedSimpArgs false

theorem crash_len {w : World} {g : Nat} {v : Value} {d : DSt} (h : IsDisk w g v d) (n : Int) : (d.bytes.take (left d n)).length = left d n := by
  have := left_le h.syn n
  simp; omega
theorem crash_again (d : DSt) (n m : Int) (h : (d.bytes.take (left d n)).length = left d n) : crashD (crashD d n) m = crashD d n := by
  have h1 : left (crashD d n) m = left d n := by unfold left crashD; simp only [h]; unfold left; omega
  unfold crashD at h1 ⊢
  rw [h1]
  simp [List.take_take]

set_option maxRecDepth 100000 in
set_option maxHeartbeats 2000000 in
theorem diskTwice_c (y : Value) (os : List OpV) (one two : Int) (w : World) (h1 : RdO w y os) :
    Calls Try.prog 7 #[y, .int .i64 one, .int .i64 two] w (RetT w) := by
  have H1 := hid h1
  clear h1
  go_enter Try.func7, Try.ntmps7
  go_wp2_with fail
  refine (played_c _ os _ H1.out).mono ?_
  rintro e w1 ⟨g, v, g', v', d, rfl, S⟩
  have S1 := hid S
  obtain ⟨dc, hdc⟩ : ∃ dc, crashD d one = dc := ⟨_, rfl⟩
  have HL := crash_len S.a.disk one
  have HD := hid hdc
  have HA := hid (show crashD dc two = dc by rw [← hdc]; exact crash_again d one two HL)
  have HU := hid (show dc.down = false by rw [← hdc]; rfl)
  have HY := hid (show dc.bytes.length = dc.synced by rw [← hdc]; exact HL)
  clear S HL hdc
  go_wp2_with fail
  refine (crash_c S1.out.a.disk one dc HD.out).mono ?_
  rintro e w2 ⟨v2, rfl, I, F, G⟩
  have S2 := hid (S1.out.toA I F G)
  clear I F G
  go_wp2_with fail
  refine (crash_c S2.out.b.disk one dc HD.out).mono ?_
  rintro e w3 ⟨v3, rfl, I, F, G⟩
  have S3 := hid (S2.out.swap.toA I F G).swap
  clear I F G
  go_wp2_with fail
  refine (crash_c S3.out.b.disk two dc HA.out).mono ?_
  rintro e w4 ⟨v4, rfl, I, F, G⟩
  have S4 := hid (S3.out.swap.toA I F G).swap
  clear I F G
  go_wp2_with fail
  refine (read_c S4.out.b.disk _ rfl).mono ?_
  rintro e w5 ⟨v5, rfl, A, B, C⟩
  have S5 := hid (S4.out.keep B)
  clear A B C
  go_wp2_with fail
  refine (down_c S5.out.a.disk).mono ?_
  rintro e wx ⟨rfl, rfl⟩
  rw [HU.out]
  go_wp2_with fail
  refine (synced_c S5.out.a.disk).mono ?_
  rintro e wx ⟨rfl, rfl⟩
  go_wp2_with fail
  refine (size_c S5.out.a.disk).mono ?_
  rintro e wx ⟨rfl, rfl⟩
  rw [HY.out]
  go_wp2_with fail
  refine (alike_c S5.out.a.disk S5.out.b.disk rfl rfl rfl).mono ?_
  rintro e w6 ⟨rfl, B⟩
  have S6 := hid (S5.out.keep B)
  clear B
  go_wp2_with fail
  refine (awake_c _).mono ?_
  rintro e w7 ⟨rfl, B⟩
  have F7 := hid (S6.out.a.fr.fresh_no B)
  clear B
  go_wp2_with fail
  go_ret
  exact ⟨rfl, F7.out⟩
end Go.Proofs.Ytfilmehekibmbaa
