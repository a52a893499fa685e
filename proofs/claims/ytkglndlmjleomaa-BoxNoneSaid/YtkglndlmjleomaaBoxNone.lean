import Derived.Test.YtkglndlmjleomaaBoxL
import Derived.Deep.Strs
/-! BoxNone. -/
namespace Go.Proofs.Ytkglndlmjleomaa
open Go.RowKit Go.ChangeShapes Go.WideShapes
set_option linter.unusedVariables false
set_option linter.unusedSimpArgs false

theorem NoBox.keep {w w' : World} {v : Value} (h : NoBox w v) (hf : Fr No w w') : NoBox w' v := by
  rcases h with rfl | ⟨g, rfl, hb⟩
  · exact .inl rfl
  · exact .inr ⟨g, rfl, hb.keep hf (not_no _)⟩
theorem six (l : List Value) (h : l.length = 6) : ∃ a b c d e f, l = [a, b, c, d, e, f] := by
  match l, h with
  | [a, b, c, d, e, f], _ => exact ⟨a, b, c, d, e, f, rfl⟩
section
variable {H : Type} {enc : TypeId × Value → H} {P : Program} {w : World} {base : Nat} {held : Bool} {spare : Nat → Bool}
theorem to_of_trod {t : TypeId} {f0 f1 f2 f3 f4 f5 : Field} {fuel : Nat} {a b c d e f : Value} {x : DataW H × List MemPlace} (ht : P.underlying t = some (.struct #[f0, f1, f2, f3, f4, f5])) (hi : P.underlying f3.type = some (.int .i64))
    (hc : P.cellsOf f3.type = 1) (ho : f3.offset = 3) (h : DataW.trod enc P w base spare held fuel t [a, b, c, d, e, f] = some x) : ∃ z, d = .int .i64 z := by
  obtain ⟨xs, n, _, _, _, hlen, hg⟩ := DataW.trod_struct ht h
  have h3 := hg 3 f3 rfl
  have h6 : 3 < xs.length := by simp at hlen; omega
  rw [hc, ho, List.getElem?_eq_getElem h6] at h3
  obtain ⟨z, hz, _⟩ := i64_of_trod (w := w) hi h3
  exact ⟨z, by simpa using hz⟩
set_option maxRecDepth 100000 in
theorem mail_of_trod {cs : Array Value} {d : DataW H} {p : List MemPlace} (hs : cs.size = 6) (h : DataW.Trod enc Try.prog w base spare held 30 (.agg cs) d p) : ∃ a b c e f to, cs = #[a, b, c, .int .i64 to, e, f] := by
  obtain ⟨l⟩ := cs
  obtain ⟨a, b, c, d, e, f, rfl⟩ := six l hs
  obtain ⟨fuel, hf⟩ := h
  obtain ⟨z, rfl⟩ := to_of_trod Try.underlying30 (by kernel_rfl) (by kernel_rfl) rfl hf
  exact ⟨a, b, c, e, f, z, rfl⟩
end
set_option maxRecDepth 100000 in
theorem index_two (p q : Value) (w : World) : (Instr.index 62 (.agg #[p, q]) (.int .i64 0)).run Try.prog w = .ok p w ∧ (Instr.index 62 (.agg #[p, q]) (.int .i64 1)).run Try.prog w = .ok q w := by
  have hu := Try.underlying62
  constructor
  · simp [Instr.index, run_underlying hu, go_sem]
  · simp [Instr.index, run_underlying hu, go_sem]
set_option maxRecDepth 100000 in
set_option maxHeartbeats 1000000 in
theorem boxNone_c (a b c d e : Value) (to : Int) (w : World) : Calls Try.prog 8 #[.agg #[a, b, c, .int .i64 to, d, e]] w (RetT w) := by
  go_enter Try.func8, Try.ntmps8
  go_wp2_with fail
  go_loopg [14] 2 (fun q v14 w' => ∃ i : Nat, v14 = .int .i64 i ∧ i ≤ 2 ∧ q = 2 - i ∧ Hid (Blk w' w.heap.size 30 #[a, b, c, .int .i64 to, d, e]) ∧ Hid (NoBox w' (.pointer (some ⟨w.heap.size + 1, 0, none⟩))) ∧ Hid (Fr No w w'))
  case atStart =>
    refine ⟨0, rfl, by omega, rfl, (Blk.new w _ _).alloc _, .inr ⟨_, rfl, ?_⟩, ((Fr.refl No w).alloc _).alloc _⟩
    have := Blk.new (w.alloc (.cells #[a, b, c, .int .i64 to, d, e] 30)) 61 #[.int .i64 0, .map none]
    rwa [show (w.alloc (.cells #[a, b, c, .int .i64 to, d, e] 30)).heap.size = w.heap.size + 1 by simp] at this
  case round =>
    obtain ⟨i, rfl, hi, hq, HM, HB, HF⟩ := hrel
    have HQ := hid hq
    clear hq
    rcases (show i = 0 ∨ i = 1 ∨ i = 2 by omega) with rfl | rfl | rfl
    · have N0 := hid (show NoBox wr (.pointer none) from .inl rfl)
      have k3 := HM.out.cell 3
      have hix := index_two (.pointer none) (.pointer (some ⟨w.heap.size + 1, 0, none⟩)) wr
      obtain ⟨hx0, hx1⟩ := hix
      go_wp2_with fail
      refine (take_none N0.out to).mono ?_
      rintro e1 w1 ⟨rfl, F⟩
      have F1 := hid (F.alloc (.cells #[.int .i64 0, .int .i64 0, .int .i64 0, .int .i64 0, .string ByteArray.empty, .slice none 0 0] 30))
      have HX1 := hid (Blk.new w1 30 #[.int .i64 0, .int .i64 0, .int .i64 0, .int .i64 0, .string ByteArray.empty, .slice none 0 0])
      have HM1 := hid (HM.out.keep F1.out (not_no _))
      have HB1 := hid (HB.out.keep F1.out)
      have N1 := hid (N0.out.keep F1.out)
      have k4 := HM1.out.cell 3
      clear F
      unfold mail0
      go_wp2_with fail
      refine (look_none N1.out to).mono ?_
      rintro e1 w2 ⟨rfl, F⟩
      have F2 := hid (F.alloc (.cells #[.int .i64 0, .int .i64 0, .int .i64 0, .int .i64 0, .string ByteArray.empty, .slice none 0 0] 30))
      have HX2 := hid (HX1.out.keep F2.out (not_no _))
      have HY2 := hid (Blk.new w2 30 #[.int .i64 0, .int .i64 0, .int .i64 0, .int .i64 0, .string ByteArray.empty, .slice none 0 0])
      have HM2 := hid (HM1.out.keep F2.out (not_no _))
      have HB2 := hid (HB1.out.keep F2.out)
      have N2 := hid (N1.out.keep F2.out)
      have j0 := HM2.out.cell 0
      have j1 := HM2.out.cell 1
      have j2 := HM2.out.cell 2
      have j3 := HM2.out.cell 3
      have j4 := HM2.out.cell 4
      have j5 := HM2.out.cell 5
      clear F k4
      unfold mail0
      go_wp2_with fail
      refine (put_none N2.out a b c (.int .i64 to) d e).mono ?_
      rintro e1 w3 ⟨rfl, F3'⟩
      have F3 := hid F3'
      have x4 := (HX2.out.keep F3' (not_no _)).cell 4
      have y4 := (HY2.out.keep F3' (not_no _)).cell 4
      have HM3 := hid (HM2.out.keep F3' (not_no _))
      have HB3 := hid (HB2.out.keep F3')
      have N3 := hid (N2.out.keep F3')
      have l3 := HM3.out.cell 3
      clear F3' j0 j1 j2 j3 j4 j5
      go_wp2_with fail
      refine (len_none N3.out to).mono ?_
      rintro e1 wx ⟨rfl, rfl⟩
      go_wp2_with fail
      refine (waiting_none N3.out).mono ?_
      rintro e1 wx ⟨rfl, rfl⟩
      go_wp2_with fail
      refine (all_none N3.out).mono ?_
      rintro e1 wx ⟨rfl, rfl⟩
      go_wp2_with fail
      refine (drop_none N3.out to).mono ?_
      rintro e1 wx ⟨rfl, rfl⟩
      have HF4 := hid (((HF.out.fresh_no F1.out).fresh_no F2.out).fresh_no F3.out)
      go_wp2_with fail
      go_roundg (2 - (1))
      case measure => have := HQ.out; omega
      case rel => exact ⟨1, rfl, by omega, rfl, HM3, HB3, HF4⟩
    · have N0 := HB
      have k3 := HM.out.cell 3
      have hix := index_two (.pointer none) (.pointer (some ⟨w.heap.size + 1, 0, none⟩)) wr
      obtain ⟨hx0, hx1⟩ := hix
      go_wp2_with fail
      refine (take_none N0.out to).mono ?_
      rintro e1 w1 ⟨rfl, F⟩
      have F1 := hid (F.alloc (.cells #[.int .i64 0, .int .i64 0, .int .i64 0, .int .i64 0, .string ByteArray.empty, .slice none 0 0] 30))
      have HX1 := hid (Blk.new w1 30 #[.int .i64 0, .int .i64 0, .int .i64 0, .int .i64 0, .string ByteArray.empty, .slice none 0 0])
      have HM1 := hid (HM.out.keep F1.out (not_no _))
      have HB1 := hid (HB.out.keep F1.out)
      have N1 := hid (N0.out.keep F1.out)
      have k4 := HM1.out.cell 3
      clear F
      unfold mail0
      go_wp2_with fail
      refine (look_none N1.out to).mono ?_
      rintro e1 w2 ⟨rfl, F⟩
      have F2 := hid (F.alloc (.cells #[.int .i64 0, .int .i64 0, .int .i64 0, .int .i64 0, .string ByteArray.empty, .slice none 0 0] 30))
      have HX2 := hid (HX1.out.keep F2.out (not_no _))
      have HY2 := hid (Blk.new w2 30 #[.int .i64 0, .int .i64 0, .int .i64 0, .int .i64 0, .string ByteArray.empty, .slice none 0 0])
      have HM2 := hid (HM1.out.keep F2.out (not_no _))
      have HB2 := hid (HB1.out.keep F2.out)
      have N2 := hid (N1.out.keep F2.out)
      have j0 := HM2.out.cell 0
      have j1 := HM2.out.cell 1
      have j2 := HM2.out.cell 2
      have j3 := HM2.out.cell 3
      have j4 := HM2.out.cell 4
      have j5 := HM2.out.cell 5
      clear F k4
      unfold mail0
      go_wp2_with fail
      refine (put_none N2.out a b c (.int .i64 to) d e).mono ?_
      rintro e1 w3 ⟨rfl, F3'⟩
      have F3 := hid F3'
      have x4 := (HX2.out.keep F3' (not_no _)).cell 4
      have y4 := (HY2.out.keep F3' (not_no _)).cell 4
      have HM3 := hid (HM2.out.keep F3' (not_no _))
      have HB3 := hid (HB2.out.keep F3')
      have N3 := hid (N2.out.keep F3')
      have l3 := HM3.out.cell 3
      clear F3' j0 j1 j2 j3 j4 j5
      go_wp2_with fail
      refine (len_none N3.out to).mono ?_
      rintro e1 wx ⟨rfl, rfl⟩
      go_wp2_with fail
      refine (waiting_none N3.out).mono ?_
      rintro e1 wx ⟨rfl, rfl⟩
      go_wp2_with fail
      refine (all_none N3.out).mono ?_
      rintro e1 wx ⟨rfl, rfl⟩
      go_wp2_with fail
      refine (drop_none N3.out to).mono ?_
      rintro e1 wx ⟨rfl, rfl⟩
      have HF4 := hid (((HF.out.fresh_no F1.out).fresh_no F2.out).fresh_no F3.out)
      go_wp2_with fail
      go_roundg (2 - (2))
      case measure => have := HQ.out; omega
      case rel => exact ⟨2, rfl, by omega, rfl, HM3, HB3, HF4⟩
    · go_wp2_with fail
      refine (awake_c _).mono ?_
      rintro e1 w7 ⟨rfl, f7⟩
      have HF7 := hid (HF.out.fresh_no f7)
      go_wp2_with fail
      go_ret
      exact ⟨rfl, HF7.out⟩
end Go.Proofs.Ytkglndlmjleomaa
