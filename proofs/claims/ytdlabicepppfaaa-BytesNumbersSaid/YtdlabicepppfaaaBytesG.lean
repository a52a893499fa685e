import Derived.Test.YtdlabicepppfaaaBytesF
/-! The chapter's examples come out. -/
namespace Go.Proofs.Ytdlabicepppfaaa
open Go.RowKit
set_option linter.unusedVariables false
set_option linter.unusedSimpArgs false
theorem crc_check : crc [49, 50, 51, 52, 53, 54, 55, 56, 57] = 3421780262 := by decide +kernel
theorem crc_empty : sealB [] = [0, 0, 0, 0] := by decide +kernel

set_option maxRecDepth 100000 in
set_option maxHeartbeats 1000000 in
theorem awake_c (w : World) : Calls Try.prog 12 #[] w (RetT w) := by
  have kc := run_convert_const (P := Try.prog) 24 5 Try.underlying24 Try.underlying5
  go_enter Try.func12, Try.ntmps12
  go_wp2_with fail
  refine (uint_x _ [] _ 0 (by first | rfl | omega) (by omega) _ (OwnB.nil _ _) (by simp)).mono ?_
  rintro e w1 ⟨v1, rfl, A, B, C⟩
  have A1 := hid (show OwnB 5 w1 v1 [0] by have h := A; rw [show [] ++ varint 0 = [0] from by first | rfl | (simp [varint_small, varint_big, zz]; done) | (simp [varint_small, varint_big, zz]; rfl)] at h; exact h)
  have F1 := hid (show Fr No w w1 from ((Fr.refl No w)).fresh_nil B)
  clear A B C
  go_wp2_with fail
  refine (is_c _ _ [0] [0] _ (A1.out.alloc _).rd (RdB.lit_ _ _ _ _ _ rfl rfl _ (by first | rfl | simp)) true rfl).mono ?_
  rintro e wx ⟨rfl, rfl⟩
  go_wp2_with fail
  refine (uint_x _ [] _ 127 (by first | rfl | omega) (by omega) _ (OwnB.nil _ _) (by simp)).mono ?_
  rintro e w2 ⟨v2, rfl, A, B, C⟩
  have A2 := hid (show OwnB 5 w2 v2 [127] by have h := A; rw [show [] ++ varint 127 = [127] from by first | rfl | (simp [varint_small, varint_big, zz]; done) | (simp [varint_small, varint_big, zz]; rfl)] at h; exact h)
  have F2 := hid (show Fr No w w2 from ((F1.out).alloc _).fresh_nil B)
  clear A B C
  go_wp2_with fail
  refine (is_c _ _ [127] [127] _ (A2.out.alloc _).rd (RdB.lit_ _ _ _ _ _ rfl rfl _ (by first | rfl | simp)) true rfl).mono ?_
  rintro e wx ⟨rfl, rfl⟩
  go_wp2_with fail
  refine (uint_x _ [9] _ 128 (by first | rfl | omega) (by omega) _ (OwnB.lit_ _ _ _ _ _ rfl rfl (by simp [maxLen]) _ (by first | rfl | simp)) (by simp)).mono ?_
  rintro e w3 ⟨v3, rfl, A, B, C⟩
  have A3 := hid (show OwnB 5 w3 v3 [9, 128, 1] by have h := A; rw [show [9] ++ varint 128 = [9, 128, 1] from by first | rfl | (simp [varint_small, varint_big, zz]; done) | (simp [varint_small, varint_big, zz]; rfl)] at h; exact h)
  have F3 := hid (show Fr No w w3 from (((F2.out).alloc _).alloc _).fresh B (fun k hk => by have h := Of_some.1 hk; have := F2.out.size; simp at h; omega))
  clear A B C
  go_wp2_with fail
  refine (is_c _ _ [9, 128, 1] [9, 128, 1] _ (A3.out.alloc _).rd (RdB.lit_ _ _ _ _ _ rfl rfl _ (by first | rfl | simp)) true rfl).mono ?_
  rintro e wx ⟨rfl, rfl⟩
  go_wp2_with fail
  refine (uint_x _ [] _ 300 (by first | rfl | omega) (by omega) _ (OwnB.nil _ _) (by simp)).mono ?_
  rintro e w4 ⟨v4, rfl, A, B, C⟩
  have A4 := hid (show OwnB 5 w4 v4 [172, 2] by have h := A; rw [show [] ++ varint 300 = [172, 2] from by first | rfl | (simp [varint_small, varint_big, zz]; done) | (simp [varint_small, varint_big, zz]; rfl)] at h; exact h)
  have F4 := hid (show Fr No w w4 from ((F3.out).alloc _).fresh_nil B)
  clear A B C
  go_wp2_with fail
  refine (is_c _ _ [172, 2] [172, 2] _ (A4.out.alloc _).rd (RdB.lit_ _ _ _ _ _ rfl rfl _ (by first | rfl | simp)) true rfl).mono ?_
  rintro e wx ⟨rfl, rfl⟩
  go_wp2_with fail
  refine (int_c _ [] (-1) (by omega) (by omega) _ (OwnB.nil _ _) (by simp)).mono ?_
  rintro e w5 ⟨v5, rfl, A, B, C⟩
  have A5 := hid (show OwnB 5 w5 v5 [1] by have h := A; rw [show [] ++ varint (zz (-1)) = [1] from by first | rfl | (simp [varint_small, varint_big, zz]; done) | (simp [varint_small, varint_big, zz]; rfl)] at h; exact h)
  have F5 := hid (show Fr No w w5 from ((F4.out).alloc _).fresh_nil B)
  clear A B C
  go_wp2_with fail
  refine (is_c _ _ [1] [1] _ (A5.out.alloc _).rd (RdB.lit_ _ _ _ _ _ rfl rfl _ (by first | rfl | simp)) true rfl).mono ?_
  rintro e wx ⟨rfl, rfl⟩
  go_wp2_with fail
  refine (int_c _ [] (1) (by omega) (by omega) _ (OwnB.nil _ _) (by simp)).mono ?_
  rintro e w6 ⟨v6, rfl, A, B, C⟩
  have A6 := hid (show OwnB 5 w6 v6 [2] by have h := A; rw [show [] ++ varint (zz (1)) = [2] from by first | rfl | (simp [varint_small, varint_big, zz]; done) | (simp [varint_small, varint_big, zz]; rfl)] at h; exact h)
  have F6 := hid (show Fr No w w6 from ((F5.out).alloc _).fresh_nil B)
  clear A B C
  go_wp2_with fail
  refine (is_c _ _ [2] [2] _ (A6.out.alloc _).rd (RdB.lit_ _ _ _ _ _ rfl rfl _ (by first | rfl | simp)) true rfl).mono ?_
  rintro e wx ⟨rfl, rfl⟩
  go_wp2_with fail
  refine (int_c _ [] (-64) (by omega) (by omega) _ (OwnB.nil _ _) (by simp)).mono ?_
  rintro e w7 ⟨v7, rfl, A, B, C⟩
  have A7 := hid (show OwnB 5 w7 v7 [127] by have h := A; rw [show [] ++ varint (zz (-64)) = [127] from by first | rfl | (simp [varint_small, varint_big, zz]; done) | (simp [varint_small, varint_big, zz]; rfl)] at h; exact h)
  have F7 := hid (show Fr No w w7 from ((F6.out).alloc _).fresh_nil B)
  clear A B C
  go_wp2_with fail
  refine (is_c _ _ [127] [127] _ (A7.out.alloc _).rd (RdB.lit_ _ _ _ _ _ rfl rfl _ (by first | rfl | simp)) true rfl).mono ?_
  rintro e wx ⟨rfl, rfl⟩
  go_wp2_with fail
  refine (blob_c _ [] _ [97, 98] _ (OwnB.nil _ _) (RdB.lit_ _ _ _ _ _ rfl rfl _ (by first | rfl | simp)) (fun _ k _ => Of_none) (by simp)).mono ?_
  rintro e w8 ⟨v8, rfl, A, B, C⟩
  have A8 := hid (show OwnB 5 w8 v8 [2, 97, 98] by have h := A; rw [show [] ++ varint ([97, 98] : List UInt8).length ++ [97, 98] = [2, 97, 98] from by first | rfl | (simp [varint_small, varint_big, zz]; done) | (simp [varint_small, varint_big, zz]; rfl)] at h; exact h)
  have F8 := hid (show Fr No w w8 from (((F7.out).alloc _).alloc _).fresh_nil B)
  clear A B C
  go_wp2_with fail
  refine (is_c _ _ [2, 97, 98] [2, 97, 98] _ (A8.out.alloc _).rd (RdB.lit_ _ _ _ _ _ rfl rfl _ (by first | rfl | simp)) true rfl).mono ?_
  rintro e wx ⟨rfl, rfl⟩
  go_wp2_with fail
  refine (wrong_c _ [128, 0] _ 10 (by rfl) (by omega) _ (RdB.lit_ _ _ _ _ _ rfl rfl _ (by first | rfl | simp)) (by simp) (by decide)).mono ?_
  rintro e wx ⟨rfl, rfl⟩
  go_wp2_with fail
  refine (wrong_c _ [128] _ 11 (by rfl) (by omega) _ (RdB.lit_ _ _ _ _ _ rfl rfl _ (by first | rfl | simp)) (by simp) (by decide)).mono ?_
  rintro e wx ⟨rfl, rfl⟩
  go_wp2_with fail
  refine (crc_c _ [49, 50, 51, 52, 53, 54, 55, 56, 57] _ (RdB.lit_ _ _ _ _ _ rfl rfl _ (by first | rfl | simp)) (by simp)).mono ?_
  rintro e wx ⟨he, rfl⟩
  rw [crc_check] at he
  subst he
  go_wp2_with fail
  refine (seal_c _ [] _ (RdB.nil _) (by simp)).mono ?_
  rintro e w9 ⟨v9, rfl, A, B, C⟩
  have A9 := hid (show OwnB 5 w9 v9 [0, 0, 0, 0] by have h := A; rw [crc_empty] at h; exact h)
  have F9 := hid (show Fr No w w9 from (((((F8.out).alloc _).alloc _).alloc _).alloc _).fresh_no B)
  clear A B C
  go_wp2_with fail
  refine (is_c _ _ [0, 0, 0, 0] [0, 0, 0, 0] _ (A9.out.alloc _).rd (RdB.lit_ _ _ _ _ _ rfl rfl _ (by first | rfl | simp)) true rfl).mono ?_
  rintro e wx ⟨rfl, rfl⟩
  go_wp2_with fail
  go_ret
  exact ⟨rfl, F9.out.alloc _⟩
end Go.Proofs.Ytdlabicepppfaaa
