import Derived.Test.YthcebkbedfaoeaaLeaseE
/-! drop, Acked, Expire. (gen_leaseF.py prints it.) -/
namespace Go.Proofs.Ythcebkbedfaoeaa
open Go.RowKit
set_option linter.unusedVariables false
set_option linter.unusedSimpArgs false

theorem vals_len (ms : List (K3 × Ls)) : (vals ms).length = ms.length := by simp [vals]

set_option maxRecDepth 100000 in
set_option maxHeartbeats 2000000 in
theorem drop_A {w : World} {g b : Nat} {n l s : Int} {ms : List (K3 × Ls)} (h : IsTab w g b n l s ms) (p1 p2 : Nat) (nd ep : Int) (hr : ReadyA nd ep w p1 p2) (hx : Tills ms) (hml : ms.length ≤ 1000000)  :
    Calls Try.prog 26 #[.pointer (some ⟨g, 0, none⟩), .func (.func 27) #[] #[.pointer (some ⟨p1, 0, none⟩), .pointer (some ⟨p2, 0, none⟩)]] w fun e w' =>
      e = .returned (.int .i64 ((ms.length : Int) - (ms.filter (fun p => !goesA nd ep p.2)).length)) ∧ IsTab w' g b n l s (ms.filter (fun p => !goesA nd ep p.2)) ∧ Fr (fun x => x = b) w w' := by
  have hfl : (ms.filter (fun p => !goesA nd ep p.2)).length ≤ ms.length := List.length_filter_le _ _
  obtain ⟨W, hW⟩ : ∃ W, w.alloc (.cells #[.func (.func 27) #[] #[.pointer (some ⟨p1, 0, none⟩), .pointer (some ⟨p2, 0, none⟩)]] 67) = W := ⟨_, rfl⟩
  have HW := hid hW
  have FW := hid (show Fr No w W from hW ▸ (Fr.refl No w).alloc _)
  have H3 := hid (show Blk W w.heap.size 67 #[.func (.func 27) #[] #[.pointer (some ⟨p1, 0, none⟩), .pointer (some ⟨p2, 0, none⟩)]] from hW ▸ Blk.new w _ _)
  have H := hid (h.keep FW.out)
  have HR := hid (hr.keep FW.out (fun _ _ _ _ => not_no _))
  have HX := hid hx
  obtain ⟨c0, c1, c2, c3, cf⟩ := H.out.blk.four
  have hlen := fun ty => run_lenK (P := Try.prog) (T := 25) (K := 65) (E := 30) (ty := ty) Try.underlying25 H.out.map
  rw [vals_len] at hlen
  clear hW h hr hx
  go_enter Try.func26, Try.ntmps26
  go_wp2_with fail
  rw [HW.out]
  refine (right_yes H.out.blk).mono ?_
  rintro e wx ⟨rfl, rfl⟩
  go_wp2_with fail
  refine (del_A _ b ms p1 p2 w.heap.size nd ep H.out.map HR.out H3.out HX.out ).mono ?_
  rintro e w2 ⟨rfl, m2, f2⟩
  have HT2 := hid (show IsTab w2 g b n l s (ms.filter (fun p => !goesA nd ep p.2)) from ⟨H.out.blk.keep f2 (fun e => H.out.ne e), m2⟩)
  have HF2 := hid ((FW.out.mono (S' := fun x => x = b) (fun x _ h => absurd h (not_no x))).trans f2 (fun x _ h => h))
  have hlen2 := fun ty => run_lenK (P := Try.prog) (T := 25) (K := 65) (E := 30) (ty := ty) Try.underlying25 m2
  rw [vals_len] at hlen2
  clear c0 c1 c2 c3 cf hlen m2 f2
  obtain ⟨c0, c1, c2, c3, cf⟩ := HT2.out.blk.four
  generalize hk : ms.filter (fun p => !goesA nd ep p.2) = left at hlen2 HT2 hfl ⊢
  go_wp2_with fail
  go_ret
  exact ⟨by rw [hk]; rfl, by rw [hk]; exact HT2.out, HF2.out⟩

set_option maxRecDepth 100000 in
set_option maxHeartbeats 2000000 in
theorem drop_E {w : World} {g b : Nat} {n l s : Int} {ms : List (K3 × Ls)} (h : IsTab w g b n l s ms) (p1 p2 : Nat) (g0 : Nat) (n0 l0 m0 : Value) (s0 tick : Int) (hr : ReadyE g0 n0 l0 m0 s0 tick w p1 p2) (hx : Tills ms) (hml : ms.length ≤ 1000000) (hs : 0 ≤ s0 ∧ s0 ≤ 1048576) :
    Calls Try.prog 26 #[.pointer (some ⟨g, 0, none⟩), .func (.func 28) #[] #[.pointer (some ⟨p1, 0, none⟩), .pointer (some ⟨p2, 0, none⟩)]] w fun e w' =>
      e = .returned (.int .i64 ((ms.length : Int) - (ms.filter (fun p => !goesE s0 tick p.2)).length)) ∧ IsTab w' g b n l s (ms.filter (fun p => !goesE s0 tick p.2)) ∧ Fr (fun x => x = b) w w' := by
  have hfl : (ms.filter (fun p => !goesE s0 tick p.2)).length ≤ ms.length := List.length_filter_le _ _
  obtain ⟨W, hW⟩ : ∃ W, w.alloc (.cells #[.func (.func 28) #[] #[.pointer (some ⟨p1, 0, none⟩), .pointer (some ⟨p2, 0, none⟩)]] 67) = W := ⟨_, rfl⟩
  have HW := hid hW
  have FW := hid (show Fr No w W from hW ▸ (Fr.refl No w).alloc _)
  have H3 := hid (show Blk W w.heap.size 67 #[.func (.func 28) #[] #[.pointer (some ⟨p1, 0, none⟩), .pointer (some ⟨p2, 0, none⟩)]] from hW ▸ Blk.new w _ _)
  have H := hid (h.keep FW.out)
  have HR := hid (hr.keep FW.out (fun _ _ _ _ => not_no _))
  have HX := hid hx
  obtain ⟨c0, c1, c2, c3, cf⟩ := H.out.blk.four
  have hlen := fun ty => run_lenK (P := Try.prog) (T := 25) (K := 65) (E := 30) (ty := ty) Try.underlying25 H.out.map
  rw [vals_len] at hlen
  clear hW h hr hx
  go_enter Try.func26, Try.ntmps26
  go_wp2_with fail
  rw [HW.out]
  refine (right_yes H.out.blk).mono ?_
  rintro e wx ⟨rfl, rfl⟩
  go_wp2_with fail
  refine (del_E _ b ms p1 p2 w.heap.size g0 n0 l0 m0 s0 tick H.out.map HR.out H3.out HX.out hs).mono ?_
  rintro e w2 ⟨rfl, m2, f2⟩
  have HT2 := hid (show IsTab w2 g b n l s (ms.filter (fun p => !goesE s0 tick p.2)) from ⟨H.out.blk.keep f2 (fun e => H.out.ne e), m2⟩)
  have HF2 := hid ((FW.out.mono (S' := fun x => x = b) (fun x _ h => absurd h (not_no x))).trans f2 (fun x _ h => h))
  have hlen2 := fun ty => run_lenK (P := Try.prog) (T := 25) (K := 65) (E := 30) (ty := ty) Try.underlying25 m2
  rw [vals_len] at hlen2
  clear c0 c1 c2 c3 cf hlen m2 f2
  obtain ⟨c0, c1, c2, c3, cf⟩ := HT2.out.blk.four
  generalize hk : ms.filter (fun p => !goesE s0 tick p.2) = left at hlen2 HT2 hfl ⊢
  go_wp2_with fail
  go_ret
  exact ⟨by rw [hk]; rfl, by rw [hk]; exact HT2.out, HF2.out⟩

set_option maxRecDepth 100000 in
set_option maxHeartbeats 2000000 in
theorem acked_c {w : World} {g b : Nat} {n l s : Int} {ms : List (K3 × Ls)} (h : IsTab w g b n l s ms) (nd ep : Int) (hx : Tills ms) (hml : ms.length ≤ 1000000) :
    Calls Try.prog 10 #[.pointer (some ⟨g, 0, none⟩), .int .i64 nd, .int .i64 ep] w fun e w' =>
      e = .returned (.int .i64 ((ms.length : Int) - (ms.filter (fun p => !goesA nd ep p.2)).length)) ∧ IsTab w' g b n l s (ms.filter (fun p => !goesA nd ep p.2)) ∧ Fr (fun x => x = b) w w' := by
  have F2 : Fr No w ((w.alloc (.cells #[.int .i64 nd] 3)).alloc (.cells #[.int .i64 ep] 3)) := ((Fr.refl No w).alloc _).alloc _
  have HF := hid F2
  have B1 := (Blk.new w 3 #[.int .i64 nd]).alloc (.cells #[.int .i64 ep] 3)
  have B2 : Blk ((w.alloc (.cells #[.int .i64 nd] 3)).alloc (.cells #[.int .i64 ep] 3)) (w.heap.size + 1) 3 #[.int .i64 ep] := by
    have := Blk.new (w.alloc (.cells #[.int .i64 nd] 3)) 3 #[.int .i64 ep]
    rwa [show (w.alloc (.cells #[.int .i64 nd] 3)).heap.size = w.heap.size + 1 by simp] at this
  have HR := hid (show ReadyA nd ep _ _ _ from ⟨B1, B2⟩)
  have H := hid (h.keep F2)
  have HX := hid hx
  clear F2 B1 B2 h hx
  go_enter Try.func10, Try.ntmps10
  go_wp2_with fail
  refine (drop_A H.out _ _ nd ep HR.out HX.out hml).mono ?_
  rintro e w1 ⟨rfl, t1, f1⟩
  have HT := hid t1
  have HF1 := hid ((HF.out.mono (S' := fun x => x = b) (fun x _ h => absurd h (not_no x))).trans f1 (fun x _ h => h))
  clear t1 f1
  go_wp2_with fail
  go_ret
  exact ⟨rfl, HT.out, HF1.out⟩
set_option maxRecDepth 100000 in
set_option maxHeartbeats 2000000 in
theorem expire_c {w : World} {g b : Nat} {n l s : Int} {ms : List (K3 × Ls)} (h : IsTab w g b n l s ms) (tick : Int) (hx : Tills ms) (hml : ms.length ≤ 1000000) (hs : 0 ≤ s ∧ s ≤ 1048576) :
    Calls Try.prog 11 #[.pointer (some ⟨g, 0, none⟩), .int .i64 tick] w fun e w' =>
      e = .returned (.int .i64 ((ms.length : Int) - (ms.filter (fun p => !goesE s tick p.2)).length)) ∧ IsTab w' g b n l s (ms.filter (fun p => !goesE s tick p.2)) ∧ Fr (fun x => x = b) w w' := by
  have F2 : Fr No w ((w.alloc (.cells #[.pointer (some ⟨g, 0, none⟩)] 24)).alloc (.cells #[.int .i64 tick] 3)) := ((Fr.refl No w).alloc _).alloc _
  have HF := hid F2
  have B1 := (Blk.new w 24 #[.pointer (some ⟨g, 0, none⟩)]).alloc (.cells #[.int .i64 tick] 3)
  have B2 : Blk ((w.alloc (.cells #[.pointer (some ⟨g, 0, none⟩)] 24)).alloc (.cells #[.int .i64 tick] 3)) (w.heap.size + 1) 3 #[.int .i64 tick] := by
    have := Blk.new (w.alloc (.cells #[.pointer (some ⟨g, 0, none⟩)] 24)) 3 #[.int .i64 tick]
    rwa [show (w.alloc (.cells #[.pointer (some ⟨g, 0, none⟩)] 24)).heap.size = w.heap.size + 1 by simp] at this
  have HR := hid (show ReadyE g (.int .i64 n) (.int .i64 l) (.map (some b)) s tick _ _ _ from ⟨B1, B2, (h.keep F2).blk⟩)
  have H := hid (h.keep F2)
  have HX := hid hx
  clear F2 B1 B2 h hx
  go_enter Try.func11, Try.ntmps11
  go_wp2_with fail
  refine (drop_E H.out _ _ g (.int .i64 n) (.int .i64 l) (.map (some b)) s tick HR.out HX.out hml hs).mono ?_
  rintro e w1 ⟨rfl, t1, f1⟩
  have HT := hid t1
  have HF1 := hid ((HF.out.mono (S' := fun x => x = b) (fun x _ h => absurd h (not_no x))).trans f1 (fun x _ h => h))
  clear t1 f1
  go_wp2_with fail
  go_ret
  exact ⟨rfl, HT.out, HF1.out⟩
end Go.Proofs.Ythcebkbedfaoeaa
