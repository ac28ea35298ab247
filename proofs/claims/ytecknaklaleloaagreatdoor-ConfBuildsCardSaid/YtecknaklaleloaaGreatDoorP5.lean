/-
  Texts of one proof, one behind the other.
-/
import Derived.Test.YtecknaklaleloaaGreatDoorP4
import Derived.Test.YtecknaklaleloaaGreatDoorProg
import Derived.KernelRfl
import Derived.Lib.Bytealg
import Derived.Lib.Index
import Derived.Lib.Strings
import Derived.Lib.Split
import Derived.Lib.FieldsP
import Derived.Lib.ParseIntB
import Derived.Lib.ItoaNum
import Derived.Test.YtecknaklaleloaaGreatDoorChecked
set_option linter.all false
section
namespace Go.Am
open Go
open Go.Proofs
@[simp] theorem tk_1 : tk Tryz.prog 1 = .func := by kernel_rfl
@[simp] theorem tsz_1 : tsz Tryz.prog 1 = some 1 := by kernel_rfl
@[simp] theorem tk_2 : tk Tryz.prog 2 = .int .i64 := by kernel_rfl
@[simp] theorem tsz_2 : tsz Tryz.prog 2 = some 1 := by kernel_rfl
@[simp] theorem tzero_2 : tzero Tryz.prog 2 = some ([.d (.int .i64 0)]) := by kernel_rfl
@[simp] theorem tbytes_2 : tbytes Tryz.prog 2 = some 8 := by kernel_rfl
@[simp] theorem tzeroD_2 : tzeroD Tryz.prog 2 = some (.int .i64 0) := by kernel_rfl
@[simp] theorem tk_3 : tk Tryz.prog 3 = .int .i64 := by kernel_rfl
@[simp] theorem tsz_3 : tsz Tryz.prog 3 = some 1 := by kernel_rfl
@[simp] theorem tzero_3 : tzero Tryz.prog 3 = some ([.d (.int .i64 0)]) := by kernel_rfl
@[simp] theorem tbytes_3 : tbytes Tryz.prog 3 = some 8 := by kernel_rfl
@[simp] theorem tzeroD_3 : tzeroD Tryz.prog 3 = some (.int .i64 0) := by kernel_rfl
@[simp] theorem tk_4 : tk Tryz.prog 4 = .bool := by kernel_rfl
@[simp] theorem tsz_4 : tsz Tryz.prog 4 = some 1 := by kernel_rfl
@[simp] theorem tzero_4 : tzero Tryz.prog 4 = some ([.d (.bool false)]) := by kernel_rfl
@[simp] theorem tbytes_4 : tbytes Tryz.prog 4 = some 1 := by kernel_rfl
@[simp] theorem tzeroD_4 : tzeroD Tryz.prog 4 = some (.bool false) := by kernel_rfl
@[simp] theorem tk_5 : tk Tryz.prog 5 = .int .u8 := by kernel_rfl
@[simp] theorem tsz_5 : tsz Tryz.prog 5 = some 1 := by kernel_rfl
@[simp] theorem tzero_5 : tzero Tryz.prog 5 = some ([.d (.int .u8 0)]) := by kernel_rfl
@[simp] theorem tbytes_5 : tbytes Tryz.prog 5 = some 1 := by kernel_rfl
@[simp] theorem tzeroD_5 : tzeroD Tryz.prog 5 = some (.int .u8 0) := by kernel_rfl
@[simp] theorem tk_6 : tk Tryz.prog 6 = .int .u8 := by kernel_rfl
@[simp] theorem tsz_6 : tsz Tryz.prog 6 = some 1 := by kernel_rfl
@[simp] theorem tzero_6 : tzero Tryz.prog 6 = some ([.d (.int .u8 0)]) := by kernel_rfl
@[simp] theorem tbytes_6 : tbytes Tryz.prog 6 = some 1 := by kernel_rfl
@[simp] theorem tzeroD_6 : tzeroD Tryz.prog 6 = some (.int .u8 0) := by kernel_rfl
@[simp] theorem tk_7 : tk Tryz.prog 7 = .struct := by kernel_rfl
@[simp] theorem tsz_7 : tsz Tryz.prog 7 = some 4 := by kernel_rfl
@[simp] theorem tzero_7 : tzero Tryz.prog 7 = some ([.d (.int .i64 0), .d (.int .i64 0), .d (.bool false), .d (.int .u8 0)]) := by kernel_rfl
@[simp] theorem tbytes_7 : tbytes Tryz.prog 7 = some 24 := by kernel_rfl
@[simp] theorem tzeroD_7 : tzeroD Tryz.prog 7 = some (.agg ([.int .i64 0, .int .i64 0, .bool false, .int .u8 0])) := by kernel_rfl
@[simp] theorem foff_7_0 : foff Tryz.prog 7 0 = some 0 := by kernel_rfl
@[simp] theorem ftyp_7_0 : ftyp Tryz.prog 7 0 = some 2 := by kernel_rfl
@[simp] theorem foff_7_1 : foff Tryz.prog 7 1 = some 1 := by kernel_rfl
@[simp] theorem ftyp_7_1 : ftyp Tryz.prog 7 1 = some 3 := by kernel_rfl
@[simp] theorem foff_7_2 : foff Tryz.prog 7 2 = some 2 := by kernel_rfl
@[simp] theorem ftyp_7_2 : ftyp Tryz.prog 7 2 = some 4 := by kernel_rfl
@[simp] theorem foff_7_3 : foff Tryz.prog 7 3 = some 3 := by kernel_rfl
@[simp] theorem ftyp_7_3 : ftyp Tryz.prog 7 3 = some 6 := by kernel_rfl
@[simp] theorem fplace_7 : fplace Tryz.prog 7 = some [(0, 1), (1, 1), (2, 1), (3, 1)] := by kernel_rfl
@[simp] theorem tk_8 : tk Tryz.prog 8 = .struct := by kernel_rfl
@[simp] theorem tsz_8 : tsz Tryz.prog 8 = some 4 := by kernel_rfl
@[simp] theorem tzero_8 : tzero Tryz.prog 8 = some ([.d (.int .i64 0), .d (.int .i64 0), .d (.bool false), .d (.int .u8 0)]) := by kernel_rfl
@[simp] theorem tbytes_8 : tbytes Tryz.prog 8 = some 24 := by kernel_rfl
@[simp] theorem tzeroD_8 : tzeroD Tryz.prog 8 = some (.agg ([.int .i64 0, .int .i64 0, .bool false, .int .u8 0])) := by kernel_rfl
@[simp] theorem foff_8_0 : foff Tryz.prog 8 0 = some 0 := by kernel_rfl
@[simp] theorem ftyp_8_0 : ftyp Tryz.prog 8 0 = some 2 := by kernel_rfl
@[simp] theorem foff_8_1 : foff Tryz.prog 8 1 = some 1 := by kernel_rfl
@[simp] theorem ftyp_8_1 : ftyp Tryz.prog 8 1 = some 3 := by kernel_rfl
@[simp] theorem foff_8_2 : foff Tryz.prog 8 2 = some 2 := by kernel_rfl
@[simp] theorem ftyp_8_2 : ftyp Tryz.prog 8 2 = some 4 := by kernel_rfl
@[simp] theorem foff_8_3 : foff Tryz.prog 8 3 = some 3 := by kernel_rfl
@[simp] theorem ftyp_8_3 : ftyp Tryz.prog 8 3 = some 6 := by kernel_rfl
@[simp] theorem fplace_8 : fplace Tryz.prog 8 = some [(0, 1), (1, 1), (2, 1), (3, 1)] := by kernel_rfl
@[simp] theorem tk_9 : tk Tryz.prog 9 = .str := by kernel_rfl
@[simp] theorem tsz_9 : tsz Tryz.prog 9 = some 1 := by kernel_rfl
@[simp] theorem tzero_9 : tzero Tryz.prog 9 = some ([.d (.str [])]) := by kernel_rfl
@[simp] theorem tbytes_9 : tbytes Tryz.prog 9 = some 16 := by kernel_rfl
@[simp] theorem tzeroD_9 : tzeroD Tryz.prog 9 = some (.str []) := by kernel_rfl
@[simp] theorem srcTy_9 : srcTy Tryz.prog 9 = true := by kernel_rfl
@[simp] theorem tk_10 : tk Tryz.prog 10 = .str := by kernel_rfl
@[simp] theorem tsz_10 : tsz Tryz.prog 10 = some 1 := by kernel_rfl
@[simp] theorem tzero_10 : tzero Tryz.prog 10 = some ([.d (.str [])]) := by kernel_rfl
@[simp] theorem tbytes_10 : tbytes Tryz.prog 10 = some 16 := by kernel_rfl
@[simp] theorem tzeroD_10 : tzeroD Tryz.prog 10 = some (.str []) := by kernel_rfl
@[simp] theorem srcTy_10 : srcTy Tryz.prog 10 = true := by kernel_rfl
@[simp] theorem tk_11 : tk Tryz.prog 11 = .str := by kernel_rfl
@[simp] theorem tsz_11 : tsz Tryz.prog 11 = some 1 := by kernel_rfl
@[simp] theorem tzero_11 : tzero Tryz.prog 11 = some ([.d (.str [])]) := by kernel_rfl
@[simp] theorem tbytes_11 : tbytes Tryz.prog 11 = some 16 := by kernel_rfl
@[simp] theorem tzeroD_11 : tzeroD Tryz.prog 11 = some (.str []) := by kernel_rfl
@[simp] theorem srcTy_11 : srcTy Tryz.prog 11 = true := by kernel_rfl
@[simp] theorem tk_12 : tk Tryz.prog 12 = .int .u64 := by kernel_rfl
@[simp] theorem tsz_12 : tsz Tryz.prog 12 = some 1 := by kernel_rfl
@[simp] theorem tzero_12 : tzero Tryz.prog 12 = some ([.d (.int .u64 0)]) := by kernel_rfl
@[simp] theorem tbytes_12 : tbytes Tryz.prog 12 = some 8 := by kernel_rfl
@[simp] theorem tzeroD_12 : tzeroD Tryz.prog 12 = some (.int .u64 0) := by kernel_rfl
@[simp] theorem tk_13 : tk Tryz.prog 13 = .struct := by kernel_rfl
@[simp] theorem tsz_13 : tsz Tryz.prog 13 = some 2 := by kernel_rfl
@[simp] theorem tzero_13 : tzero Tryz.prog 13 = some ([.d (.str []), .d (.int .u64 0)]) := by kernel_rfl
@[simp] theorem tbytes_13 : tbytes Tryz.prog 13 = some 24 := by kernel_rfl
@[simp] theorem tzeroD_13 : tzeroD Tryz.prog 13 = some (.agg ([.str [], .int .u64 0])) := by kernel_rfl
@[simp] theorem foff_13_0 : foff Tryz.prog 13 0 = some 0 := by kernel_rfl
@[simp] theorem ftyp_13_0 : ftyp Tryz.prog 13 0 = some 9 := by kernel_rfl
@[simp] theorem foff_13_1 : foff Tryz.prog 13 1 = some 1 := by kernel_rfl
@[simp] theorem ftyp_13_1 : ftyp Tryz.prog 13 1 = some 12 := by kernel_rfl
@[simp] theorem fplace_13 : fplace Tryz.prog 13 = some [(0, 1), (1, 1)] := by kernel_rfl
@[simp] theorem tk_15 : tk Tryz.prog 15 = .ptr 171 := by kernel_rfl
@[simp] theorem tsz_15 : tsz Tryz.prog 15 = some 1 := by kernel_rfl
@[simp] theorem tk_16 : tk Tryz.prog 16 = .ptr 174 := by kernel_rfl
@[simp] theorem tsz_16 : tsz Tryz.prog 16 = some 1 := by kernel_rfl
@[simp] theorem tk_17 : tk Tryz.prog 17 = .ptr 182 := by kernel_rfl
@[simp] theorem tsz_17 : tsz Tryz.prog 17 = some 1 := by kernel_rfl
@[simp] theorem tk_18 : tk Tryz.prog 18 = .struct := by kernel_rfl
@[simp] theorem tsz_18 : tsz Tryz.prog 18 = some 1 := by kernel_rfl
@[simp] theorem tzero_18 : tzero Tryz.prog 18 = some ([.lit (.pointer none)]) := by kernel_rfl
@[simp] theorem foff_18_0 : foff Tryz.prog 18 0 = some 0 := by kernel_rfl
@[simp] theorem ftyp_18_0 : ftyp Tryz.prog 18 0 = some 17 := by kernel_rfl
@[simp] theorem fplace_18 : fplace Tryz.prog 18 = some [(0, 1)] := by kernel_rfl
@[simp] theorem tk_20 : tk Tryz.prog 20 = .iface := by kernel_rfl
@[simp] theorem tsz_20 : tsz Tryz.prog 20 = some 1 := by kernel_rfl
@[simp] theorem tk_21 : tk Tryz.prog 21 = .int .i32 := by kernel_rfl
@[simp] theorem tsz_21 : tsz Tryz.prog 21 = some 1 := by kernel_rfl
@[simp] theorem tzero_21 : tzero Tryz.prog 21 = some ([.d (.int .i32 0)]) := by kernel_rfl
@[simp] theorem tbytes_21 : tbytes Tryz.prog 21 = some 4 := by kernel_rfl
@[simp] theorem tzeroD_21 : tzeroD Tryz.prog 21 = some (.int .i32 0) := by kernel_rfl
@[simp] theorem tk_23 : tk Tryz.prog 23 = .slice 35 := by kernel_rfl
@[simp] theorem tsz_23 : tsz Tryz.prog 23 = some 1 := by kernel_rfl
@[simp] theorem tzero_23 : tzero Tryz.prog 23 = some ([.lit (.slice none 0 0)]) := by kernel_rfl
@[simp] theorem tbytes_23 : tbytes Tryz.prog 23 = some 24 := by kernel_rfl
@[simp] theorem tzeroD_23 : tzeroD Tryz.prog 23 = some (.list []) := by kernel_rfl
@[simp] theorem srcTy_23 : srcTy Tryz.prog 23 = true := by kernel_rfl
@[simp] theorem tk_24 : tk Tryz.prog 24 = .struct := by kernel_rfl
@[simp] theorem tsz_24 : tsz Tryz.prog 24 = some 2 := by kernel_rfl
@[simp] theorem tzero_24 : tzero Tryz.prog 24 = some ([.d (.int .i64 0), .lit (.slice none 0 0)]) := by kernel_rfl
@[simp] theorem tbytes_24 : tbytes Tryz.prog 24 = some 32 := by kernel_rfl
@[simp] theorem tzeroD_24 : tzeroD Tryz.prog 24 = some (.agg ([.int .i64 0, .list []])) := by kernel_rfl
@[simp] theorem foff_24_0 : foff Tryz.prog 24 0 = some 0 := by kernel_rfl
@[simp] theorem ftyp_24_0 : ftyp Tryz.prog 24 0 = some 3 := by kernel_rfl
@[simp] theorem foff_24_1 : foff Tryz.prog 24 1 = some 1 := by kernel_rfl
@[simp] theorem ftyp_24_1 : ftyp Tryz.prog 24 1 = some 23 := by kernel_rfl
@[simp] theorem fplace_24 : fplace Tryz.prog 24 = some [(0, 1), (1, 1)] := by kernel_rfl
@[simp] theorem tk_25 : tk Tryz.prog 25 = .struct := by kernel_rfl
@[simp] theorem tsz_25 : tsz Tryz.prog 25 = some 2 := by kernel_rfl
@[simp] theorem tzero_25 : tzero Tryz.prog 25 = some ([.d (.int .i64 0), .lit (.slice none 0 0)]) := by kernel_rfl
@[simp] theorem tbytes_25 : tbytes Tryz.prog 25 = some 32 := by kernel_rfl
@[simp] theorem tzeroD_25 : tzeroD Tryz.prog 25 = some (.agg ([.int .i64 0, .list []])) := by kernel_rfl
@[simp] theorem foff_25_0 : foff Tryz.prog 25 0 = some 0 := by kernel_rfl
@[simp] theorem ftyp_25_0 : ftyp Tryz.prog 25 0 = some 3 := by kernel_rfl
@[simp] theorem foff_25_1 : foff Tryz.prog 25 1 = some 1 := by kernel_rfl
@[simp] theorem ftyp_25_1 : ftyp Tryz.prog 25 1 = some 23 := by kernel_rfl
@[simp] theorem fplace_25 : fplace Tryz.prog 25 = some [(0, 1), (1, 1)] := by kernel_rfl
@[simp] theorem tk_26 : tk Tryz.prog 26 = .int .i64 := by kernel_rfl
@[simp] theorem tsz_26 : tsz Tryz.prog 26 = some 1 := by kernel_rfl
@[simp] theorem tzero_26 : tzero Tryz.prog 26 = some ([.d (.int .i64 0)]) := by kernel_rfl
@[simp] theorem tbytes_26 : tbytes Tryz.prog 26 = some 8 := by kernel_rfl
@[simp] theorem tzeroD_26 : tzeroD Tryz.prog 26 = some (.int .i64 0) := by kernel_rfl
@[simp] theorem tk_31 : tk Tryz.prog 31 = .func := by kernel_rfl
@[simp] theorem tsz_31 : tsz Tryz.prog 31 = some 1 := by kernel_rfl
@[simp] theorem tk_32 : tk Tryz.prog 32 = .struct := by kernel_rfl
@[simp] theorem tsz_32 : tsz Tryz.prog 32 = some 5 := by kernel_rfl
@[simp] theorem tzero_32 : tzero Tryz.prog 32 = some ([.d (.int .i64 0), .d (.int .i64 0), .d (.int .i64 0), .d (.int .i64 0), .d (.int .i64 0)]) := by kernel_rfl
@[simp] theorem tbytes_32 : tbytes Tryz.prog 32 = some 40 := by kernel_rfl
@[simp] theorem tzeroD_32 : tzeroD Tryz.prog 32 = some (.agg ([.int .i64 0, .int .i64 0, .int .i64 0, .int .i64 0, .int .i64 0])) := by kernel_rfl
@[simp] theorem foff_32_0 : foff Tryz.prog 32 0 = some 0 := by kernel_rfl
@[simp] theorem ftyp_32_0 : ftyp Tryz.prog 32 0 = some 2 := by kernel_rfl
@[simp] theorem foff_32_1 : foff Tryz.prog 32 1 = some 1 := by kernel_rfl
@[simp] theorem ftyp_32_1 : ftyp Tryz.prog 32 1 = some 2 := by kernel_rfl
@[simp] theorem foff_32_2 : foff Tryz.prog 32 2 = some 2 := by kernel_rfl
@[simp] theorem ftyp_32_2 : ftyp Tryz.prog 32 2 = some 2 := by kernel_rfl
@[simp] theorem foff_32_3 : foff Tryz.prog 32 3 = some 3 := by kernel_rfl
@[simp] theorem ftyp_32_3 : ftyp Tryz.prog 32 3 = some 2 := by kernel_rfl
@[simp] theorem foff_32_4 : foff Tryz.prog 32 4 = some 4 := by kernel_rfl
@[simp] theorem ftyp_32_4 : ftyp Tryz.prog 32 4 = some 2 := by kernel_rfl
@[simp] theorem fplace_32 : fplace Tryz.prog 32 = some [(0, 1), (1, 1), (2, 1), (3, 1), (4, 1)] := by kernel_rfl
@[simp] theorem flat_32 : flatStruct Tryz.prog 32 = some [.int .i64, .int .i64, .int .i64, .int .i64, .int .i64] := by kernel_rfl
@[simp] theorem tk_33 : tk Tryz.prog 33 = .struct := by kernel_rfl
@[simp] theorem tsz_33 : tsz Tryz.prog 33 = some 5 := by kernel_rfl
@[simp] theorem tzero_33 : tzero Tryz.prog 33 = some ([.d (.int .i64 0), .d (.int .i64 0), .d (.int .i64 0), .d (.int .i64 0), .d (.int .i64 0)]) := by kernel_rfl
@[simp] theorem tbytes_33 : tbytes Tryz.prog 33 = some 40 := by kernel_rfl
@[simp] theorem tzeroD_33 : tzeroD Tryz.prog 33 = some (.agg ([.int .i64 0, .int .i64 0, .int .i64 0, .int .i64 0, .int .i64 0])) := by kernel_rfl
@[simp] theorem foff_33_0 : foff Tryz.prog 33 0 = some 0 := by kernel_rfl
@[simp] theorem ftyp_33_0 : ftyp Tryz.prog 33 0 = some 2 := by kernel_rfl
@[simp] theorem foff_33_1 : foff Tryz.prog 33 1 = some 1 := by kernel_rfl
@[simp] theorem ftyp_33_1 : ftyp Tryz.prog 33 1 = some 2 := by kernel_rfl
@[simp] theorem foff_33_2 : foff Tryz.prog 33 2 = some 2 := by kernel_rfl
@[simp] theorem ftyp_33_2 : ftyp Tryz.prog 33 2 = some 2 := by kernel_rfl
@[simp] theorem foff_33_3 : foff Tryz.prog 33 3 = some 3 := by kernel_rfl
@[simp] theorem ftyp_33_3 : ftyp Tryz.prog 33 3 = some 2 := by kernel_rfl
@[simp] theorem foff_33_4 : foff Tryz.prog 33 4 = some 4 := by kernel_rfl
@[simp] theorem ftyp_33_4 : ftyp Tryz.prog 33 4 = some 2 := by kernel_rfl
@[simp] theorem fplace_33 : fplace Tryz.prog 33 = some [(0, 1), (1, 1), (2, 1), (3, 1), (4, 1)] := by kernel_rfl
@[simp] theorem flat_33 : flatStruct Tryz.prog 33 = some [.int .i64, .int .i64, .int .i64, .int .i64, .int .i64] := by kernel_rfl
@[simp] theorem tk_34 : tk Tryz.prog 34 = .struct := by kernel_rfl
@[simp] theorem tsz_34 : tsz Tryz.prog 34 = some 12 := by kernel_rfl
@[simp] theorem tzero_34 : tzero Tryz.prog 34 = some ([.d (.int .i64 0), .d (.int .i64 0), .d (.int .i64 0), .d (.int .i64 0), .d (.int .i64 0), .d (.int .i64 0), .d (.int .i64 0), .d (.int .i64 0), .d (.int .i64 0), .d (.int .i64 0), .d (.int .i64 0), .d (.int .i64 0)]) := by kernel_rfl
@[simp] theorem tbytes_34 : tbytes Tryz.prog 34 = some 96 := by kernel_rfl
@[simp] theorem tzeroD_34 : tzeroD Tryz.prog 34 = some (.agg ([.int .i64 0, .int .i64 0, .int .i64 0, .int .i64 0, .int .i64 0, .int .i64 0, .int .i64 0, .int .i64 0, .int .i64 0, .int .i64 0, .int .i64 0, .int .i64 0])) := by kernel_rfl
@[simp] theorem foff_34_0 : foff Tryz.prog 34 0 = some 0 := by kernel_rfl
@[simp] theorem ftyp_34_0 : ftyp Tryz.prog 34 0 = some 33 := by kernel_rfl
@[simp] theorem foff_34_1 : foff Tryz.prog 34 1 = some 5 := by kernel_rfl
@[simp] theorem ftyp_34_1 : ftyp Tryz.prog 34 1 = some 3 := by kernel_rfl
@[simp] theorem foff_34_2 : foff Tryz.prog 34 2 = some 6 := by kernel_rfl
@[simp] theorem ftyp_34_2 : ftyp Tryz.prog 34 2 = some 2 := by kernel_rfl
@[simp] theorem foff_34_3 : foff Tryz.prog 34 3 = some 7 := by kernel_rfl
@[simp] theorem ftyp_34_3 : ftyp Tryz.prog 34 3 = some 2 := by kernel_rfl
@[simp] theorem foff_34_4 : foff Tryz.prog 34 4 = some 8 := by kernel_rfl
@[simp] theorem ftyp_34_4 : ftyp Tryz.prog 34 4 = some 2 := by kernel_rfl
@[simp] theorem foff_34_5 : foff Tryz.prog 34 5 = some 9 := by kernel_rfl
@[simp] theorem ftyp_34_5 : ftyp Tryz.prog 34 5 = some 3 := by kernel_rfl
@[simp] theorem foff_34_6 : foff Tryz.prog 34 6 = some 10 := by kernel_rfl
@[simp] theorem ftyp_34_6 : ftyp Tryz.prog 34 6 = some 3 := by kernel_rfl
@[simp] theorem foff_34_7 : foff Tryz.prog 34 7 = some 11 := by kernel_rfl
@[simp] theorem ftyp_34_7 : ftyp Tryz.prog 34 7 = some 2 := by kernel_rfl
@[simp] theorem fplace_34 : fplace Tryz.prog 34 = some [(0, 5), (5, 1), (6, 1), (7, 1), (8, 1), (9, 1), (10, 1), (11, 1)] := by kernel_rfl
@[simp] theorem flat_34 : flatStruct Tryz.prog 34 = some [.int .i64, .int .i64, .int .i64, .int .i64, .int .i64, .int .i64, .int .i64, .int .i64, .int .i64, .int .i64, .int .i64, .int .i64] := by kernel_rfl
@[simp] theorem tk_35 : tk Tryz.prog 35 = .struct := by kernel_rfl
@[simp] theorem tsz_35 : tsz Tryz.prog 35 = some 12 := by kernel_rfl
@[simp] theorem tzero_35 : tzero Tryz.prog 35 = some ([.d (.int .i64 0), .d (.int .i64 0), .d (.int .i64 0), .d (.int .i64 0), .d (.int .i64 0), .d (.int .i64 0), .d (.int .i64 0), .d (.int .i64 0), .d (.int .i64 0), .d (.int .i64 0), .d (.int .i64 0), .d (.int .i64 0)]) := by kernel_rfl
@[simp] theorem tbytes_35 : tbytes Tryz.prog 35 = some 96 := by kernel_rfl
@[simp] theorem tzeroD_35 : tzeroD Tryz.prog 35 = some (.agg ([.int .i64 0, .int .i64 0, .int .i64 0, .int .i64 0, .int .i64 0, .int .i64 0, .int .i64 0, .int .i64 0, .int .i64 0, .int .i64 0, .int .i64 0, .int .i64 0])) := by kernel_rfl
@[simp] theorem foff_35_0 : foff Tryz.prog 35 0 = some 0 := by kernel_rfl
@[simp] theorem ftyp_35_0 : ftyp Tryz.prog 35 0 = some 33 := by kernel_rfl
@[simp] theorem foff_35_1 : foff Tryz.prog 35 1 = some 5 := by kernel_rfl
@[simp] theorem ftyp_35_1 : ftyp Tryz.prog 35 1 = some 3 := by kernel_rfl
@[simp] theorem foff_35_2 : foff Tryz.prog 35 2 = some 6 := by kernel_rfl
@[simp] theorem ftyp_35_2 : ftyp Tryz.prog 35 2 = some 2 := by kernel_rfl
@[simp] theorem foff_35_3 : foff Tryz.prog 35 3 = some 7 := by kernel_rfl
@[simp] theorem ftyp_35_3 : ftyp Tryz.prog 35 3 = some 2 := by kernel_rfl
@[simp] theorem foff_35_4 : foff Tryz.prog 35 4 = some 8 := by kernel_rfl
@[simp] theorem ftyp_35_4 : ftyp Tryz.prog 35 4 = some 2 := by kernel_rfl
@[simp] theorem foff_35_5 : foff Tryz.prog 35 5 = some 9 := by kernel_rfl
@[simp] theorem ftyp_35_5 : ftyp Tryz.prog 35 5 = some 3 := by kernel_rfl
@[simp] theorem foff_35_6 : foff Tryz.prog 35 6 = some 10 := by kernel_rfl
@[simp] theorem ftyp_35_6 : ftyp Tryz.prog 35 6 = some 3 := by kernel_rfl
@[simp] theorem foff_35_7 : foff Tryz.prog 35 7 = some 11 := by kernel_rfl
@[simp] theorem ftyp_35_7 : ftyp Tryz.prog 35 7 = some 2 := by kernel_rfl
@[simp] theorem fplace_35 : fplace Tryz.prog 35 = some [(0, 5), (5, 1), (6, 1), (7, 1), (8, 1), (9, 1), (10, 1), (11, 1)] := by kernel_rfl
@[simp] theorem flat_35 : flatStruct Tryz.prog 35 = some [.int .i64, .int .i64, .int .i64, .int .i64, .int .i64, .int .i64, .int .i64, .int .i64, .int .i64, .int .i64, .int .i64, .int .i64] := by kernel_rfl
@[simp] theorem tk_36 : tk Tryz.prog 36 = .struct := by kernel_rfl
@[simp] theorem tsz_36 : tsz Tryz.prog 36 = some 2 := by kernel_rfl
@[simp] theorem tzero_36 : tzero Tryz.prog 36 = some ([.d (.int .i64 0), .d (.int .i64 0)]) := by kernel_rfl
@[simp] theorem tbytes_36 : tbytes Tryz.prog 36 = some 16 := by kernel_rfl
@[simp] theorem tzeroD_36 : tzeroD Tryz.prog 36 = some (.agg ([.int .i64 0, .int .i64 0])) := by kernel_rfl
@[simp] theorem foff_36_0 : foff Tryz.prog 36 0 = some 0 := by kernel_rfl
@[simp] theorem ftyp_36_0 : ftyp Tryz.prog 36 0 = some 2 := by kernel_rfl
@[simp] theorem foff_36_1 : foff Tryz.prog 36 1 = some 1 := by kernel_rfl
@[simp] theorem ftyp_36_1 : ftyp Tryz.prog 36 1 = some 2 := by kernel_rfl
@[simp] theorem fplace_36 : fplace Tryz.prog 36 = some [(0, 1), (1, 1)] := by kernel_rfl
@[simp] theorem flat_36 : flatStruct Tryz.prog 36 = some [.int .i64, .int .i64] := by kernel_rfl
@[simp] theorem tk_37 : tk Tryz.prog 37 = .struct := by kernel_rfl
@[simp] theorem tsz_37 : tsz Tryz.prog 37 = some 2 := by kernel_rfl
@[simp] theorem tzero_37 : tzero Tryz.prog 37 = some ([.d (.int .i64 0), .d (.int .i64 0)]) := by kernel_rfl
@[simp] theorem tbytes_37 : tbytes Tryz.prog 37 = some 16 := by kernel_rfl
@[simp] theorem tzeroD_37 : tzeroD Tryz.prog 37 = some (.agg ([.int .i64 0, .int .i64 0])) := by kernel_rfl
@[simp] theorem foff_37_0 : foff Tryz.prog 37 0 = some 0 := by kernel_rfl
@[simp] theorem ftyp_37_0 : ftyp Tryz.prog 37 0 = some 2 := by kernel_rfl
@[simp] theorem foff_37_1 : foff Tryz.prog 37 1 = some 1 := by kernel_rfl
@[simp] theorem ftyp_37_1 : ftyp Tryz.prog 37 1 = some 2 := by kernel_rfl
@[simp] theorem fplace_37 : fplace Tryz.prog 37 = some [(0, 1), (1, 1)] := by kernel_rfl
@[simp] theorem flat_37 : flatStruct Tryz.prog 37 = some [.int .i64, .int .i64] := by kernel_rfl
@[simp] theorem tk_38 : tk Tryz.prog 38 = .slice 2 := by kernel_rfl
@[simp] theorem tsz_38 : tsz Tryz.prog 38 = some 1 := by kernel_rfl
@[simp] theorem tzero_38 : tzero Tryz.prog 38 = some ([.lit (.slice none 0 0)]) := by kernel_rfl
@[simp] theorem tbytes_38 : tbytes Tryz.prog 38 = some 24 := by kernel_rfl
@[simp] theorem tzeroD_38 : tzeroD Tryz.prog 38 = some (.list []) := by kernel_rfl
@[simp] theorem srcTy_38 : srcTy Tryz.prog 38 = true := by kernel_rfl
@[simp] theorem tk_39 : tk Tryz.prog 39 = .struct := by kernel_rfl
@[simp] theorem tsz_39 : tsz Tryz.prog 39 = some 1 := by kernel_rfl
@[simp] theorem tzero_39 : tzero Tryz.prog 39 = some ([.lit (.slice none 0 0)]) := by kernel_rfl
@[simp] theorem tbytes_39 : tbytes Tryz.prog 39 = some 24 := by kernel_rfl
@[simp] theorem tzeroD_39 : tzeroD Tryz.prog 39 = some (.agg ([.list []])) := by kernel_rfl
@[simp] theorem foff_39_0 : foff Tryz.prog 39 0 = some 0 := by kernel_rfl
@[simp] theorem ftyp_39_0 : ftyp Tryz.prog 39 0 = some 38 := by kernel_rfl
@[simp] theorem fplace_39 : fplace Tryz.prog 39 = some [(0, 1)] := by kernel_rfl
@[simp] theorem tk_40 : tk Tryz.prog 40 = .struct := by kernel_rfl
@[simp] theorem tsz_40 : tsz Tryz.prog 40 = some 1 := by kernel_rfl
@[simp] theorem tzero_40 : tzero Tryz.prog 40 = some ([.lit (.slice none 0 0)]) := by kernel_rfl
@[simp] theorem tbytes_40 : tbytes Tryz.prog 40 = some 24 := by kernel_rfl
@[simp] theorem tzeroD_40 : tzeroD Tryz.prog 40 = some (.agg ([.list []])) := by kernel_rfl
@[simp] theorem foff_40_0 : foff Tryz.prog 40 0 = some 0 := by kernel_rfl
@[simp] theorem ftyp_40_0 : ftyp Tryz.prog 40 0 = some 38 := by kernel_rfl
@[simp] theorem fplace_40 : fplace Tryz.prog 40 = some [(0, 1)] := by kernel_rfl
@[simp] theorem tk_41 : tk Tryz.prog 41 = .slice 102 := by kernel_rfl
@[simp] theorem tsz_41 : tsz Tryz.prog 41 = some 1 := by kernel_rfl
@[simp] theorem tzero_41 : tzero Tryz.prog 41 = some ([.lit (.slice none 0 0)]) := by kernel_rfl
@[simp] theorem tbytes_41 : tbytes Tryz.prog 41 = some 24 := by kernel_rfl
@[simp] theorem tzeroD_41 : tzeroD Tryz.prog 41 = some (.list []) := by kernel_rfl
@[simp] theorem srcTy_41 : srcTy Tryz.prog 41 = true := by kernel_rfl
@[simp] theorem tk_42 : tk Tryz.prog 42 = .struct := by kernel_rfl
@[simp] theorem tsz_42 : tsz Tryz.prog 42 = some 2 := by kernel_rfl
@[simp] theorem tzero_42 : tzero Tryz.prog 42 = some ([.lit (.slice none 0 0), .lit (.slice none 0 0)]) := by kernel_rfl
@[simp] theorem tbytes_42 : tbytes Tryz.prog 42 = some 48 := by kernel_rfl
@[simp] theorem tzeroD_42 : tzeroD Tryz.prog 42 = some (.agg ([.list [], .list []])) := by kernel_rfl
@[simp] theorem foff_42_0 : foff Tryz.prog 42 0 = some 0 := by kernel_rfl
@[simp] theorem ftyp_42_0 : ftyp Tryz.prog 42 0 = some 41 := by kernel_rfl
@[simp] theorem foff_42_1 : foff Tryz.prog 42 1 = some 1 := by kernel_rfl
@[simp] theorem ftyp_42_1 : ftyp Tryz.prog 42 1 = some 41 := by kernel_rfl
@[simp] theorem fplace_42 : fplace Tryz.prog 42 = some [(0, 1), (1, 1)] := by kernel_rfl
@[simp] theorem tk_43 : tk Tryz.prog 43 = .struct := by kernel_rfl
@[simp] theorem tsz_43 : tsz Tryz.prog 43 = some 2 := by kernel_rfl
@[simp] theorem tzero_43 : tzero Tryz.prog 43 = some ([.lit (.slice none 0 0), .lit (.slice none 0 0)]) := by kernel_rfl
@[simp] theorem tbytes_43 : tbytes Tryz.prog 43 = some 48 := by kernel_rfl
@[simp] theorem tzeroD_43 : tzeroD Tryz.prog 43 = some (.agg ([.list [], .list []])) := by kernel_rfl
@[simp] theorem foff_43_0 : foff Tryz.prog 43 0 = some 0 := by kernel_rfl
@[simp] theorem ftyp_43_0 : ftyp Tryz.prog 43 0 = some 41 := by kernel_rfl
@[simp] theorem foff_43_1 : foff Tryz.prog 43 1 = some 1 := by kernel_rfl
@[simp] theorem ftyp_43_1 : ftyp Tryz.prog 43 1 = some 41 := by kernel_rfl
@[simp] theorem fplace_43 : fplace Tryz.prog 43 = some [(0, 1), (1, 1)] := by kernel_rfl
@[simp] theorem tk_44 : tk Tryz.prog 44 = .struct := by kernel_rfl
@[simp] theorem tsz_44 : tsz Tryz.prog 44 = some 4 := by kernel_rfl
@[simp] theorem tzero_44 : tzero Tryz.prog 44 = some ([.d (.int .i64 0), .d (.int .i64 0), .d (.int .i64 0), .d (.bool false)]) := by kernel_rfl
@[simp] theorem tbytes_44 : tbytes Tryz.prog 44 = some 32 := by kernel_rfl
@[simp] theorem tzeroD_44 : tzeroD Tryz.prog 44 = some (.agg ([.int .i64 0, .int .i64 0, .int .i64 0, .bool false])) := by kernel_rfl
@[simp] theorem foff_44_0 : foff Tryz.prog 44 0 = some 0 := by kernel_rfl
@[simp] theorem ftyp_44_0 : ftyp Tryz.prog 44 0 = some 3 := by kernel_rfl
@[simp] theorem foff_44_1 : foff Tryz.prog 44 1 = some 1 := by kernel_rfl
@[simp] theorem ftyp_44_1 : ftyp Tryz.prog 44 1 = some 2 := by kernel_rfl
@[simp] theorem foff_44_2 : foff Tryz.prog 44 2 = some 2 := by kernel_rfl
@[simp] theorem ftyp_44_2 : ftyp Tryz.prog 44 2 = some 2 := by kernel_rfl
@[simp] theorem foff_44_3 : foff Tryz.prog 44 3 = some 3 := by kernel_rfl
@[simp] theorem ftyp_44_3 : ftyp Tryz.prog 44 3 = some 4 := by kernel_rfl
@[simp] theorem fplace_44 : fplace Tryz.prog 44 = some [(0, 1), (1, 1), (2, 1), (3, 1)] := by kernel_rfl
@[simp] theorem flat_44 : flatStruct Tryz.prog 44 = some [.int .i64, .int .i64, .int .i64, .bool] := by kernel_rfl
@[simp] theorem tk_45 : tk Tryz.prog 45 = .struct := by kernel_rfl
@[simp] theorem tsz_45 : tsz Tryz.prog 45 = some 4 := by kernel_rfl
@[simp] theorem tzero_45 : tzero Tryz.prog 45 = some ([.d (.int .i64 0), .d (.int .i64 0), .d (.int .i64 0), .d (.bool false)]) := by kernel_rfl
@[simp] theorem tbytes_45 : tbytes Tryz.prog 45 = some 32 := by kernel_rfl
@[simp] theorem tzeroD_45 : tzeroD Tryz.prog 45 = some (.agg ([.int .i64 0, .int .i64 0, .int .i64 0, .bool false])) := by kernel_rfl
@[simp] theorem foff_45_0 : foff Tryz.prog 45 0 = some 0 := by kernel_rfl
@[simp] theorem ftyp_45_0 : ftyp Tryz.prog 45 0 = some 3 := by kernel_rfl
@[simp] theorem foff_45_1 : foff Tryz.prog 45 1 = some 1 := by kernel_rfl
@[simp] theorem ftyp_45_1 : ftyp Tryz.prog 45 1 = some 2 := by kernel_rfl
@[simp] theorem foff_45_2 : foff Tryz.prog 45 2 = some 2 := by kernel_rfl
@[simp] theorem ftyp_45_2 : ftyp Tryz.prog 45 2 = some 2 := by kernel_rfl
@[simp] theorem foff_45_3 : foff Tryz.prog 45 3 = some 3 := by kernel_rfl
@[simp] theorem ftyp_45_3 : ftyp Tryz.prog 45 3 = some 4 := by kernel_rfl
@[simp] theorem fplace_45 : fplace Tryz.prog 45 = some [(0, 1), (1, 1), (2, 1), (3, 1)] := by kernel_rfl
@[simp] theorem flat_45 : flatStruct Tryz.prog 45 = some [.int .i64, .int .i64, .int .i64, .bool] := by kernel_rfl
@[simp] theorem tk_46 : tk Tryz.prog 46 = .struct := by kernel_rfl
@[simp] theorem tsz_46 : tsz Tryz.prog 46 = some 26 := by kernel_rfl
@[simp] theorem tzero_46 : tzero Tryz.prog 46 = some ([.d (.int .i64 0), .d (.int .i64 0), .d (.int .i64 0), .d (.int .i64 0), .d (.int .i64 0), .d (.int .i64 0), .d (.int .i64 0), .d (.int .i64 0), .d (.int .i64 0), .d (.int .i64 0), .d (.int .i64 0), .d (.int .i64 0), .lit (.slice none 0 0), .d (.int .i64 0), .lit (.slice none 0 0), .lit (.slice none 0 0), .d (.bool false), .d (.int .i64 0), .d (.int .i64 0), .d (.int .i64 0), .d (.bool false), .d (.int .i64 0), .d (.int .i64 0), .d (.int .i64 0), .d (.int .i64 0), .d (.bool false)]) := by kernel_rfl
@[simp] theorem tbytes_46 : tbytes Tryz.prog 46 = some 256 := by kernel_rfl
@[simp] theorem tzeroD_46 : tzeroD Tryz.prog 46 = some (.agg ([.int .i64 0, .int .i64 0, .int .i64 0, .int .i64 0, .int .i64 0, .int .i64 0, .int .i64 0, .int .i64 0, .int .i64 0, .int .i64 0, .int .i64 0, .int .i64 0, .list [], .int .i64 0, .list [], .list [], .bool false, .int .i64 0, .int .i64 0, .int .i64 0, .bool false, .int .i64 0, .int .i64 0, .int .i64 0, .int .i64 0, .bool false])) := by kernel_rfl
@[simp] theorem foff_46_0 : foff Tryz.prog 46 0 = some 0 := by kernel_rfl
@[simp] theorem ftyp_46_0 : ftyp Tryz.prog 46 0 = some 3 := by kernel_rfl
@[simp] theorem foff_46_1 : foff Tryz.prog 46 1 = some 1 := by kernel_rfl
@[simp] theorem ftyp_46_1 : ftyp Tryz.prog 46 1 = some 33 := by kernel_rfl
@[simp] theorem foff_46_2 : foff Tryz.prog 46 2 = some 6 := by kernel_rfl
@[simp] theorem ftyp_46_2 : ftyp Tryz.prog 46 2 = some 3 := by kernel_rfl
@[simp] theorem foff_46_3 : foff Tryz.prog 46 3 = some 7 := by kernel_rfl
@[simp] theorem ftyp_46_3 : ftyp Tryz.prog 46 3 = some 2 := by kernel_rfl
@[simp] theorem foff_46_4 : foff Tryz.prog 46 4 = some 8 := by kernel_rfl
@[simp] theorem ftyp_46_4 : ftyp Tryz.prog 46 4 = some 2 := by kernel_rfl
@[simp] theorem foff_46_5 : foff Tryz.prog 46 5 = some 9 := by kernel_rfl
@[simp] theorem ftyp_46_5 : ftyp Tryz.prog 46 5 = some 2 := by kernel_rfl
@[simp] theorem foff_46_6 : foff Tryz.prog 46 6 = some 10 := by kernel_rfl
@[simp] theorem ftyp_46_6 : ftyp Tryz.prog 46 6 = some 37 := by kernel_rfl
@[simp] theorem foff_46_7 : foff Tryz.prog 46 7 = some 12 := by kernel_rfl
@[simp] theorem ftyp_46_7 : ftyp Tryz.prog 46 7 = some 40 := by kernel_rfl
@[simp] theorem foff_46_8 : foff Tryz.prog 46 8 = some 13 := by kernel_rfl
@[simp] theorem ftyp_46_8 : ftyp Tryz.prog 46 8 = some 2 := by kernel_rfl
@[simp] theorem foff_46_9 : foff Tryz.prog 46 9 = some 14 := by kernel_rfl
@[simp] theorem ftyp_46_9 : ftyp Tryz.prog 46 9 = some 43 := by kernel_rfl
@[simp] theorem foff_46_10 : foff Tryz.prog 46 10 = some 16 := by kernel_rfl
@[simp] theorem ftyp_46_10 : ftyp Tryz.prog 46 10 = some 4 := by kernel_rfl
@[simp] theorem foff_46_11 : foff Tryz.prog 46 11 = some 17 := by kernel_rfl
@[simp] theorem ftyp_46_11 : ftyp Tryz.prog 46 11 = some 45 := by kernel_rfl
@[simp] theorem foff_46_12 : foff Tryz.prog 46 12 = some 21 := by kernel_rfl
@[simp] theorem ftyp_46_12 : ftyp Tryz.prog 46 12 = some 3 := by kernel_rfl
@[simp] theorem foff_46_13 : foff Tryz.prog 46 13 = some 22 := by kernel_rfl
@[simp] theorem ftyp_46_13 : ftyp Tryz.prog 46 13 = some 2 := by kernel_rfl
@[simp] theorem foff_46_14 : foff Tryz.prog 46 14 = some 23 := by kernel_rfl
@[simp] theorem ftyp_46_14 : ftyp Tryz.prog 46 14 = some 2 := by kernel_rfl
@[simp] theorem foff_46_15 : foff Tryz.prog 46 15 = some 24 := by kernel_rfl
@[simp] theorem ftyp_46_15 : ftyp Tryz.prog 46 15 = some 3 := by kernel_rfl
@[simp] theorem foff_46_16 : foff Tryz.prog 46 16 = some 25 := by kernel_rfl
@[simp] theorem ftyp_46_16 : ftyp Tryz.prog 46 16 = some 4 := by kernel_rfl
@[simp] theorem fplace_46 : fplace Tryz.prog 46 = some [(0, 1), (1, 5), (6, 1), (7, 1), (8, 1), (9, 1), (10, 2), (12, 1), (13, 1), (14, 2), (16, 1), (17, 4), (21, 1), (22, 1), (23, 1), (24, 1), (25, 1)] := by kernel_rfl
@[simp] theorem tk_47 : tk Tryz.prog 47 = .struct := by kernel_rfl
@[simp] theorem tsz_47 : tsz Tryz.prog 47 = some 26 := by kernel_rfl
@[simp] theorem tzero_47 : tzero Tryz.prog 47 = some ([.d (.int .i64 0), .d (.int .i64 0), .d (.int .i64 0), .d (.int .i64 0), .d (.int .i64 0), .d (.int .i64 0), .d (.int .i64 0), .d (.int .i64 0), .d (.int .i64 0), .d (.int .i64 0), .d (.int .i64 0), .d (.int .i64 0), .lit (.slice none 0 0), .d (.int .i64 0), .lit (.slice none 0 0), .lit (.slice none 0 0), .d (.bool false), .d (.int .i64 0), .d (.int .i64 0), .d (.int .i64 0), .d (.bool false), .d (.int .i64 0), .d (.int .i64 0), .d (.int .i64 0), .d (.int .i64 0), .d (.bool false)]) := by kernel_rfl
@[simp] theorem tbytes_47 : tbytes Tryz.prog 47 = some 256 := by kernel_rfl
@[simp] theorem tzeroD_47 : tzeroD Tryz.prog 47 = some (.agg ([.int .i64 0, .int .i64 0, .int .i64 0, .int .i64 0, .int .i64 0, .int .i64 0, .int .i64 0, .int .i64 0, .int .i64 0, .int .i64 0, .int .i64 0, .int .i64 0, .list [], .int .i64 0, .list [], .list [], .bool false, .int .i64 0, .int .i64 0, .int .i64 0, .bool false, .int .i64 0, .int .i64 0, .int .i64 0, .int .i64 0, .bool false])) := by kernel_rfl
@[simp] theorem foff_47_0 : foff Tryz.prog 47 0 = some 0 := by kernel_rfl
@[simp] theorem ftyp_47_0 : ftyp Tryz.prog 47 0 = some 3 := by kernel_rfl
@[simp] theorem foff_47_1 : foff Tryz.prog 47 1 = some 1 := by kernel_rfl
@[simp] theorem ftyp_47_1 : ftyp Tryz.prog 47 1 = some 33 := by kernel_rfl
@[simp] theorem foff_47_2 : foff Tryz.prog 47 2 = some 6 := by kernel_rfl
@[simp] theorem ftyp_47_2 : ftyp Tryz.prog 47 2 = some 3 := by kernel_rfl
@[simp] theorem foff_47_3 : foff Tryz.prog 47 3 = some 7 := by kernel_rfl
@[simp] theorem ftyp_47_3 : ftyp Tryz.prog 47 3 = some 2 := by kernel_rfl
@[simp] theorem foff_47_4 : foff Tryz.prog 47 4 = some 8 := by kernel_rfl
@[simp] theorem ftyp_47_4 : ftyp Tryz.prog 47 4 = some 2 := by kernel_rfl
@[simp] theorem foff_47_5 : foff Tryz.prog 47 5 = some 9 := by kernel_rfl
@[simp] theorem ftyp_47_5 : ftyp Tryz.prog 47 5 = some 2 := by kernel_rfl
@[simp] theorem foff_47_6 : foff Tryz.prog 47 6 = some 10 := by kernel_rfl
@[simp] theorem ftyp_47_6 : ftyp Tryz.prog 47 6 = some 37 := by kernel_rfl
@[simp] theorem foff_47_7 : foff Tryz.prog 47 7 = some 12 := by kernel_rfl
@[simp] theorem ftyp_47_7 : ftyp Tryz.prog 47 7 = some 40 := by kernel_rfl
@[simp] theorem foff_47_8 : foff Tryz.prog 47 8 = some 13 := by kernel_rfl
@[simp] theorem ftyp_47_8 : ftyp Tryz.prog 47 8 = some 2 := by kernel_rfl
@[simp] theorem foff_47_9 : foff Tryz.prog 47 9 = some 14 := by kernel_rfl
@[simp] theorem ftyp_47_9 : ftyp Tryz.prog 47 9 = some 43 := by kernel_rfl
@[simp] theorem foff_47_10 : foff Tryz.prog 47 10 = some 16 := by kernel_rfl
@[simp] theorem ftyp_47_10 : ftyp Tryz.prog 47 10 = some 4 := by kernel_rfl
@[simp] theorem foff_47_11 : foff Tryz.prog 47 11 = some 17 := by kernel_rfl
@[simp] theorem ftyp_47_11 : ftyp Tryz.prog 47 11 = some 45 := by kernel_rfl
@[simp] theorem foff_47_12 : foff Tryz.prog 47 12 = some 21 := by kernel_rfl
@[simp] theorem ftyp_47_12 : ftyp Tryz.prog 47 12 = some 3 := by kernel_rfl
@[simp] theorem foff_47_13 : foff Tryz.prog 47 13 = some 22 := by kernel_rfl
@[simp] theorem ftyp_47_13 : ftyp Tryz.prog 47 13 = some 2 := by kernel_rfl
@[simp] theorem foff_47_14 : foff Tryz.prog 47 14 = some 23 := by kernel_rfl
@[simp] theorem ftyp_47_14 : ftyp Tryz.prog 47 14 = some 2 := by kernel_rfl
@[simp] theorem foff_47_15 : foff Tryz.prog 47 15 = some 24 := by kernel_rfl
@[simp] theorem ftyp_47_15 : ftyp Tryz.prog 47 15 = some 3 := by kernel_rfl
@[simp] theorem foff_47_16 : foff Tryz.prog 47 16 = some 25 := by kernel_rfl
@[simp] theorem ftyp_47_16 : ftyp Tryz.prog 47 16 = some 4 := by kernel_rfl
@[simp] theorem fplace_47 : fplace Tryz.prog 47 = some [(0, 1), (1, 5), (6, 1), (7, 1), (8, 1), (9, 1), (10, 2), (12, 1), (13, 1), (14, 2), (16, 1), (17, 4), (21, 1), (22, 1), (23, 1), (24, 1), (25, 1)] := by kernel_rfl
@[simp] theorem tk_50 : tk Tryz.prog 50 = .struct := by kernel_rfl
@[simp] theorem tsz_50 : tsz Tryz.prog 50 = some 3 := by kernel_rfl
@[simp] theorem tzero_50 : tzero Tryz.prog 50 = some ([.d (.int .i64 0), .d (.int .i64 0), .d (.int .i64 0)]) := by kernel_rfl
@[simp] theorem tbytes_50 : tbytes Tryz.prog 50 = some 24 := by kernel_rfl
@[simp] theorem tzeroD_50 : tzeroD Tryz.prog 50 = some (.agg ([.int .i64 0, .int .i64 0, .int .i64 0])) := by kernel_rfl
@[simp] theorem foff_50_0 : foff Tryz.prog 50 0 = some 0 := by kernel_rfl
@[simp] theorem ftyp_50_0 : ftyp Tryz.prog 50 0 = some 3 := by kernel_rfl
@[simp] theorem foff_50_1 : foff Tryz.prog 50 1 = some 1 := by kernel_rfl
@[simp] theorem ftyp_50_1 : ftyp Tryz.prog 50 1 = some 3 := by kernel_rfl
@[simp] theorem foff_50_2 : foff Tryz.prog 50 2 = some 2 := by kernel_rfl
@[simp] theorem ftyp_50_2 : ftyp Tryz.prog 50 2 = some 3 := by kernel_rfl
@[simp] theorem fplace_50 : fplace Tryz.prog 50 = some [(0, 1), (1, 1), (2, 1)] := by kernel_rfl
@[simp] theorem flat_50 : flatStruct Tryz.prog 50 = some [.int .i64, .int .i64, .int .i64] := by kernel_rfl
@[simp] theorem tk_51 : tk Tryz.prog 51 = .struct := by kernel_rfl
@[simp] theorem tsz_51 : tsz Tryz.prog 51 = some 3 := by kernel_rfl
@[simp] theorem tzero_51 : tzero Tryz.prog 51 = some ([.d (.int .i64 0), .d (.int .i64 0), .d (.int .i64 0)]) := by kernel_rfl
@[simp] theorem tbytes_51 : tbytes Tryz.prog 51 = some 24 := by kernel_rfl
@[simp] theorem tzeroD_51 : tzeroD Tryz.prog 51 = some (.agg ([.int .i64 0, .int .i64 0, .int .i64 0])) := by kernel_rfl
@[simp] theorem foff_51_0 : foff Tryz.prog 51 0 = some 0 := by kernel_rfl
@[simp] theorem ftyp_51_0 : ftyp Tryz.prog 51 0 = some 3 := by kernel_rfl
@[simp] theorem foff_51_1 : foff Tryz.prog 51 1 = some 1 := by kernel_rfl
@[simp] theorem ftyp_51_1 : ftyp Tryz.prog 51 1 = some 3 := by kernel_rfl
@[simp] theorem foff_51_2 : foff Tryz.prog 51 2 = some 2 := by kernel_rfl
@[simp] theorem ftyp_51_2 : ftyp Tryz.prog 51 2 = some 3 := by kernel_rfl
@[simp] theorem fplace_51 : fplace Tryz.prog 51 = some [(0, 1), (1, 1), (2, 1)] := by kernel_rfl
@[simp] theorem flat_51 : flatStruct Tryz.prog 51 = some [.int .i64, .int .i64, .int .i64] := by kernel_rfl
@[simp] theorem tk_52 : tk Tryz.prog 52 = .struct := by kernel_rfl
@[simp] theorem tsz_52 : tsz Tryz.prog 52 = some 3 := by kernel_rfl
@[simp] theorem tzero_52 : tzero Tryz.prog 52 = some ([.d (.int .i64 0), .d (.bool false), .d (.int .i64 0)]) := by kernel_rfl
@[simp] theorem tbytes_52 : tbytes Tryz.prog 52 = some 24 := by kernel_rfl
@[simp] theorem tzeroD_52 : tzeroD Tryz.prog 52 = some (.agg ([.int .i64 0, .bool false, .int .i64 0])) := by kernel_rfl
@[simp] theorem foff_52_0 : foff Tryz.prog 52 0 = some 0 := by kernel_rfl
@[simp] theorem ftyp_52_0 : ftyp Tryz.prog 52 0 = some 3 := by kernel_rfl
@[simp] theorem foff_52_1 : foff Tryz.prog 52 1 = some 1 := by kernel_rfl
@[simp] theorem ftyp_52_1 : ftyp Tryz.prog 52 1 = some 4 := by kernel_rfl
@[simp] theorem foff_52_2 : foff Tryz.prog 52 2 = some 2 := by kernel_rfl
@[simp] theorem ftyp_52_2 : ftyp Tryz.prog 52 2 = some 3 := by kernel_rfl
@[simp] theorem fplace_52 : fplace Tryz.prog 52 = some [(0, 1), (1, 1), (2, 1)] := by kernel_rfl
@[simp] theorem flat_52 : flatStruct Tryz.prog 52 = some [.int .i64, .bool, .int .i64] := by kernel_rfl
@[simp] theorem tk_53 : tk Tryz.prog 53 = .struct := by kernel_rfl
@[simp] theorem tsz_53 : tsz Tryz.prog 53 = some 3 := by kernel_rfl
@[simp] theorem tzero_53 : tzero Tryz.prog 53 = some ([.d (.int .i64 0), .d (.bool false), .d (.int .i64 0)]) := by kernel_rfl
@[simp] theorem tbytes_53 : tbytes Tryz.prog 53 = some 24 := by kernel_rfl
@[simp] theorem tzeroD_53 : tzeroD Tryz.prog 53 = some (.agg ([.int .i64 0, .bool false, .int .i64 0])) := by kernel_rfl
@[simp] theorem foff_53_0 : foff Tryz.prog 53 0 = some 0 := by kernel_rfl
@[simp] theorem ftyp_53_0 : ftyp Tryz.prog 53 0 = some 3 := by kernel_rfl
@[simp] theorem foff_53_1 : foff Tryz.prog 53 1 = some 1 := by kernel_rfl
@[simp] theorem ftyp_53_1 : ftyp Tryz.prog 53 1 = some 4 := by kernel_rfl
@[simp] theorem foff_53_2 : foff Tryz.prog 53 2 = some 2 := by kernel_rfl
@[simp] theorem ftyp_53_2 : ftyp Tryz.prog 53 2 = some 3 := by kernel_rfl
@[simp] theorem fplace_53 : fplace Tryz.prog 53 = some [(0, 1), (1, 1), (2, 1)] := by kernel_rfl
@[simp] theorem flat_53 : flatStruct Tryz.prog 53 = some [.int .i64, .bool, .int .i64] := by kernel_rfl
@[simp] theorem tk_54 : tk Tryz.prog 54 = .struct := by kernel_rfl
@[simp] theorem tsz_54 : tsz Tryz.prog 54 = some 16 := by kernel_rfl
@[simp] theorem tzero_54 : tzero Tryz.prog 54 = some ([.d (.int .i64 0), .d (.int .i64 0), .d (.int .i64 0), .d (.int .i64 0), .d (.int .i64 0), .d (.bool false), .d (.int .i64 0), .d (.int .i64 0), .d (.bool false), .d (.int .i64 0), .d (.int .i64 0), .d (.bool false), .d (.int .i64 0), .d (.int .i64 0), .d (.bool false), .d (.int .i64 0)]) := by kernel_rfl
@[simp] theorem tbytes_54 : tbytes Tryz.prog 54 = some 128 := by kernel_rfl
@[simp] theorem tzeroD_54 : tzeroD Tryz.prog 54 = some (.agg ([.int .i64 0, .int .i64 0, .int .i64 0, .int .i64 0, .int .i64 0, .bool false, .int .i64 0, .int .i64 0, .bool false, .int .i64 0, .int .i64 0, .bool false, .int .i64 0, .int .i64 0, .bool false, .int .i64 0])) := by kernel_rfl
@[simp] theorem foff_54_0 : foff Tryz.prog 54 0 = some 0 := by kernel_rfl
@[simp] theorem ftyp_54_0 : ftyp Tryz.prog 54 0 = some 3 := by kernel_rfl
@[simp] theorem foff_54_1 : foff Tryz.prog 54 1 = some 1 := by kernel_rfl
@[simp] theorem ftyp_54_1 : ftyp Tryz.prog 54 1 = some 51 := by kernel_rfl
@[simp] theorem foff_54_2 : foff Tryz.prog 54 2 = some 4 := by kernel_rfl
@[simp] theorem ftyp_54_2 : ftyp Tryz.prog 54 2 = some 53 := by kernel_rfl
@[simp] theorem foff_54_3 : foff Tryz.prog 54 3 = some 7 := by kernel_rfl
@[simp] theorem ftyp_54_3 : ftyp Tryz.prog 54 3 = some 53 := by kernel_rfl
@[simp] theorem foff_54_4 : foff Tryz.prog 54 4 = some 10 := by kernel_rfl
@[simp] theorem ftyp_54_4 : ftyp Tryz.prog 54 4 = some 53 := by kernel_rfl
@[simp] theorem foff_54_5 : foff Tryz.prog 54 5 = some 13 := by kernel_rfl
@[simp] theorem ftyp_54_5 : ftyp Tryz.prog 54 5 = some 2 := by kernel_rfl
@[simp] theorem foff_54_6 : foff Tryz.prog 54 6 = some 14 := by kernel_rfl
@[simp] theorem ftyp_54_6 : ftyp Tryz.prog 54 6 = some 4 := by kernel_rfl
@[simp] theorem foff_54_7 : foff Tryz.prog 54 7 = some 15 := by kernel_rfl
@[simp] theorem ftyp_54_7 : ftyp Tryz.prog 54 7 = some 3 := by kernel_rfl
@[simp] theorem fplace_54 : fplace Tryz.prog 54 = some [(0, 1), (1, 3), (4, 3), (7, 3), (10, 3), (13, 1), (14, 1), (15, 1)] := by kernel_rfl
@[simp] theorem flat_54 : flatStruct Tryz.prog 54 = some [.int .i64, .int .i64, .int .i64, .int .i64, .int .i64, .bool, .int .i64, .int .i64, .bool, .int .i64, .int .i64, .bool, .int .i64, .int .i64, .bool, .int .i64] := by kernel_rfl
@[simp] theorem tk_55 : tk Tryz.prog 55 = .struct := by kernel_rfl
@[simp] theorem tsz_55 : tsz Tryz.prog 55 = some 16 := by kernel_rfl
@[simp] theorem tzero_55 : tzero Tryz.prog 55 = some ([.d (.int .i64 0), .d (.int .i64 0), .d (.int .i64 0), .d (.int .i64 0), .d (.int .i64 0), .d (.bool false), .d (.int .i64 0), .d (.int .i64 0), .d (.bool false), .d (.int .i64 0), .d (.int .i64 0), .d (.bool false), .d (.int .i64 0), .d (.int .i64 0), .d (.bool false), .d (.int .i64 0)]) := by kernel_rfl
@[simp] theorem tbytes_55 : tbytes Tryz.prog 55 = some 128 := by kernel_rfl
@[simp] theorem tzeroD_55 : tzeroD Tryz.prog 55 = some (.agg ([.int .i64 0, .int .i64 0, .int .i64 0, .int .i64 0, .int .i64 0, .bool false, .int .i64 0, .int .i64 0, .bool false, .int .i64 0, .int .i64 0, .bool false, .int .i64 0, .int .i64 0, .bool false, .int .i64 0])) := by kernel_rfl
@[simp] theorem foff_55_0 : foff Tryz.prog 55 0 = some 0 := by kernel_rfl
@[simp] theorem ftyp_55_0 : ftyp Tryz.prog 55 0 = some 3 := by kernel_rfl
@[simp] theorem foff_55_1 : foff Tryz.prog 55 1 = some 1 := by kernel_rfl
@[simp] theorem ftyp_55_1 : ftyp Tryz.prog 55 1 = some 51 := by kernel_rfl
@[simp] theorem foff_55_2 : foff Tryz.prog 55 2 = some 4 := by kernel_rfl
@[simp] theorem ftyp_55_2 : ftyp Tryz.prog 55 2 = some 53 := by kernel_rfl
@[simp] theorem foff_55_3 : foff Tryz.prog 55 3 = some 7 := by kernel_rfl
@[simp] theorem ftyp_55_3 : ftyp Tryz.prog 55 3 = some 53 := by kernel_rfl
@[simp] theorem foff_55_4 : foff Tryz.prog 55 4 = some 10 := by kernel_rfl
@[simp] theorem ftyp_55_4 : ftyp Tryz.prog 55 4 = some 53 := by kernel_rfl
@[simp] theorem foff_55_5 : foff Tryz.prog 55 5 = some 13 := by kernel_rfl
@[simp] theorem ftyp_55_5 : ftyp Tryz.prog 55 5 = some 2 := by kernel_rfl
@[simp] theorem foff_55_6 : foff Tryz.prog 55 6 = some 14 := by kernel_rfl
@[simp] theorem ftyp_55_6 : ftyp Tryz.prog 55 6 = some 4 := by kernel_rfl
@[simp] theorem foff_55_7 : foff Tryz.prog 55 7 = some 15 := by kernel_rfl
@[simp] theorem ftyp_55_7 : ftyp Tryz.prog 55 7 = some 3 := by kernel_rfl
@[simp] theorem fplace_55 : fplace Tryz.prog 55 = some [(0, 1), (1, 3), (4, 3), (7, 3), (10, 3), (13, 1), (14, 1), (15, 1)] := by kernel_rfl
@[simp] theorem flat_55 : flatStruct Tryz.prog 55 = some [.int .i64, .int .i64, .int .i64, .int .i64, .int .i64, .bool, .int .i64, .int .i64, .bool, .int .i64, .int .i64, .bool, .int .i64, .int .i64, .bool, .int .i64] := by kernel_rfl
@[simp] theorem tk_57 : tk Tryz.prog 57 = .func := by kernel_rfl
@[simp] theorem tsz_57 : tsz Tryz.prog 57 = some 1 := by kernel_rfl
@[simp] theorem tk_58 : tk Tryz.prog 58 = .func := by kernel_rfl
@[simp] theorem tsz_58 : tsz Tryz.prog 58 = some 1 := by kernel_rfl
@[simp] theorem tk_61 : tk Tryz.prog 61 = .slice 9 := by kernel_rfl
@[simp] theorem tsz_61 : tsz Tryz.prog 61 = some 1 := by kernel_rfl
@[simp] theorem tzero_61 : tzero Tryz.prog 61 = some ([.lit (.slice none 0 0)]) := by kernel_rfl
@[simp] theorem tbytes_61 : tbytes Tryz.prog 61 = some 24 := by kernel_rfl
@[simp] theorem tzeroD_61 : tzeroD Tryz.prog 61 = some (.list []) := by kernel_rfl
@[simp] theorem srcTy_61 : srcTy Tryz.prog 61 = true := by kernel_rfl
@[simp] theorem tk_63 : tk Tryz.prog 63 = .func := by kernel_rfl
@[simp] theorem tsz_63 : tsz Tryz.prog 63 = some 1 := by kernel_rfl
@[simp] theorem tk_64 : tk Tryz.prog 64 = .func := by kernel_rfl
@[simp] theorem tsz_64 : tsz Tryz.prog 64 = some 1 := by kernel_rfl
@[simp] theorem tk_65 : tk Tryz.prog 65 = .func := by kernel_rfl
@[simp] theorem tsz_65 : tsz Tryz.prog 65 = some 1 := by kernel_rfl
@[simp] theorem tk_66 : tk Tryz.prog 66 = .ptr 25 := by kernel_rfl
@[simp] theorem tsz_66 : tsz Tryz.prog 66 = some 1 := by kernel_rfl
@[simp] theorem tk_69 : tk Tryz.prog 69 = .func := by kernel_rfl
@[simp] theorem tsz_69 : tsz Tryz.prog 69 = some 1 := by kernel_rfl
@[simp] theorem tk_71 : tk Tryz.prog 71 = .func := by kernel_rfl
@[simp] theorem tsz_71 : tsz Tryz.prog 71 = some 1 := by kernel_rfl
@[simp] theorem tk_89 : tk Tryz.prog 89 = .slice 91 := by kernel_rfl
@[simp] theorem tsz_89 : tsz Tryz.prog 89 = some 1 := by kernel_rfl
@[simp] theorem tzero_89 : tzero Tryz.prog 89 = some ([.lit (.slice none 0 0)]) := by kernel_rfl
@[simp] theorem tbytes_89 : tbytes Tryz.prog 89 = some 24 := by kernel_rfl
@[simp] theorem tzeroD_89 : tzeroD Tryz.prog 89 = some (.list []) := by kernel_rfl
@[simp] theorem srcTy_89 : srcTy Tryz.prog 89 = true := by kernel_rfl
@[simp] theorem tk_90 : tk Tryz.prog 90 = .struct := by kernel_rfl
@[simp] theorem tsz_90 : tsz Tryz.prog 90 = some 2 := by kernel_rfl
@[simp] theorem tzero_90 : tzero Tryz.prog 90 = some ([.d (.int .i64 0), .d (.int .i64 0)]) := by kernel_rfl
@[simp] theorem tbytes_90 : tbytes Tryz.prog 90 = some 16 := by kernel_rfl
@[simp] theorem tzeroD_90 : tzeroD Tryz.prog 90 = some (.agg ([.int .i64 0, .int .i64 0])) := by kernel_rfl
@[simp] theorem foff_90_0 : foff Tryz.prog 90 0 = some 0 := by kernel_rfl
@[simp] theorem ftyp_90_0 : ftyp Tryz.prog 90 0 = some 3 := by kernel_rfl
@[simp] theorem foff_90_1 : foff Tryz.prog 90 1 = some 1 := by kernel_rfl
@[simp] theorem ftyp_90_1 : ftyp Tryz.prog 90 1 = some 3 := by kernel_rfl
@[simp] theorem fplace_90 : fplace Tryz.prog 90 = some [(0, 1), (1, 1)] := by kernel_rfl
@[simp] theorem flat_90 : flatStruct Tryz.prog 90 = some [.int .i64, .int .i64] := by kernel_rfl
@[simp] theorem tk_91 : tk Tryz.prog 91 = .struct := by kernel_rfl
@[simp] theorem tsz_91 : tsz Tryz.prog 91 = some 2 := by kernel_rfl
@[simp] theorem tzero_91 : tzero Tryz.prog 91 = some ([.d (.int .i64 0), .d (.int .i64 0)]) := by kernel_rfl
@[simp] theorem tbytes_91 : tbytes Tryz.prog 91 = some 16 := by kernel_rfl
@[simp] theorem tzeroD_91 : tzeroD Tryz.prog 91 = some (.agg ([.int .i64 0, .int .i64 0])) := by kernel_rfl
@[simp] theorem foff_91_0 : foff Tryz.prog 91 0 = some 0 := by kernel_rfl
@[simp] theorem ftyp_91_0 : ftyp Tryz.prog 91 0 = some 3 := by kernel_rfl
@[simp] theorem foff_91_1 : foff Tryz.prog 91 1 = some 1 := by kernel_rfl
@[simp] theorem ftyp_91_1 : ftyp Tryz.prog 91 1 = some 3 := by kernel_rfl
@[simp] theorem fplace_91 : fplace Tryz.prog 91 = some [(0, 1), (1, 1)] := by kernel_rfl
@[simp] theorem flat_91 : flatStruct Tryz.prog 91 = some [.int .i64, .int .i64] := by kernel_rfl
@[simp] theorem tk_94 : tk Tryz.prog 94 = .func := by kernel_rfl
@[simp] theorem tsz_94 : tsz Tryz.prog 94 = some 1 := by kernel_rfl
@[simp] theorem tk_95 : tk Tryz.prog 95 = .func := by kernel_rfl
@[simp] theorem tsz_95 : tsz Tryz.prog 95 = some 1 := by kernel_rfl
@[simp] theorem tk_97 : tk Tryz.prog 97 = .func := by kernel_rfl
@[simp] theorem tsz_97 : tsz Tryz.prog 97 = some 1 := by kernel_rfl
@[simp] theorem tk_98 : tk Tryz.prog 98 = .func := by kernel_rfl
@[simp] theorem tsz_98 : tsz Tryz.prog 98 = some 1 := by kernel_rfl
@[simp] theorem tk_100 : tk Tryz.prog 100 = .func := by kernel_rfl
@[simp] theorem tsz_100 : tsz Tryz.prog 100 = some 1 := by kernel_rfl
@[simp] theorem tk_101 : tk Tryz.prog 101 = .struct := by kernel_rfl
@[simp] theorem tsz_101 : tsz Tryz.prog 101 = some 7 := by kernel_rfl
@[simp] theorem tzero_101 : tzero Tryz.prog 101 = some ([.d (.int .i64 0), .d (.int .i64 0), .d (.int .i64 0), .d (.int .i64 0), .d (.int .i64 0), .d (.int .i64 0), .d (.int .i64 0)]) := by kernel_rfl
@[simp] theorem tbytes_101 : tbytes Tryz.prog 101 = some 56 := by kernel_rfl
@[simp] theorem tzeroD_101 : tzeroD Tryz.prog 101 = some (.agg ([.int .i64 0, .int .i64 0, .int .i64 0, .int .i64 0, .int .i64 0, .int .i64 0, .int .i64 0])) := by kernel_rfl
@[simp] theorem foff_101_0 : foff Tryz.prog 101 0 = some 0 := by kernel_rfl
@[simp] theorem ftyp_101_0 : ftyp Tryz.prog 101 0 = some 3 := by kernel_rfl
@[simp] theorem foff_101_1 : foff Tryz.prog 101 1 = some 1 := by kernel_rfl
@[simp] theorem ftyp_101_1 : ftyp Tryz.prog 101 1 = some 3 := by kernel_rfl
@[simp] theorem foff_101_2 : foff Tryz.prog 101 2 = some 2 := by kernel_rfl
@[simp] theorem ftyp_101_2 : ftyp Tryz.prog 101 2 = some 2 := by kernel_rfl
@[simp] theorem foff_101_3 : foff Tryz.prog 101 3 = some 3 := by kernel_rfl
@[simp] theorem ftyp_101_3 : ftyp Tryz.prog 101 3 = some 2 := by kernel_rfl
@[simp] theorem foff_101_4 : foff Tryz.prog 101 4 = some 4 := by kernel_rfl
@[simp] theorem ftyp_101_4 : ftyp Tryz.prog 101 4 = some 3 := by kernel_rfl
@[simp] theorem foff_101_5 : foff Tryz.prog 101 5 = some 5 := by kernel_rfl
@[simp] theorem ftyp_101_5 : ftyp Tryz.prog 101 5 = some 2 := by kernel_rfl
@[simp] theorem foff_101_6 : foff Tryz.prog 101 6 = some 6 := by kernel_rfl
@[simp] theorem ftyp_101_6 : ftyp Tryz.prog 101 6 = some 2 := by kernel_rfl
@[simp] theorem fplace_101 : fplace Tryz.prog 101 = some [(0, 1), (1, 1), (2, 1), (3, 1), (4, 1), (5, 1), (6, 1)] := by kernel_rfl
@[simp] theorem flat_101 : flatStruct Tryz.prog 101 = some [.int .i64, .int .i64, .int .i64, .int .i64, .int .i64, .int .i64, .int .i64] := by kernel_rfl
@[simp] theorem tk_102 : tk Tryz.prog 102 = .struct := by kernel_rfl
@[simp] theorem tsz_102 : tsz Tryz.prog 102 = some 7 := by kernel_rfl
@[simp] theorem tzero_102 : tzero Tryz.prog 102 = some ([.d (.int .i64 0), .d (.int .i64 0), .d (.int .i64 0), .d (.int .i64 0), .d (.int .i64 0), .d (.int .i64 0), .d (.int .i64 0)]) := by kernel_rfl
@[simp] theorem tbytes_102 : tbytes Tryz.prog 102 = some 56 := by kernel_rfl
@[simp] theorem tzeroD_102 : tzeroD Tryz.prog 102 = some (.agg ([.int .i64 0, .int .i64 0, .int .i64 0, .int .i64 0, .int .i64 0, .int .i64 0, .int .i64 0])) := by kernel_rfl
@[simp] theorem foff_102_0 : foff Tryz.prog 102 0 = some 0 := by kernel_rfl
@[simp] theorem ftyp_102_0 : ftyp Tryz.prog 102 0 = some 3 := by kernel_rfl
@[simp] theorem foff_102_1 : foff Tryz.prog 102 1 = some 1 := by kernel_rfl
@[simp] theorem ftyp_102_1 : ftyp Tryz.prog 102 1 = some 3 := by kernel_rfl
@[simp] theorem foff_102_2 : foff Tryz.prog 102 2 = some 2 := by kernel_rfl
@[simp] theorem ftyp_102_2 : ftyp Tryz.prog 102 2 = some 2 := by kernel_rfl
@[simp] theorem foff_102_3 : foff Tryz.prog 102 3 = some 3 := by kernel_rfl
@[simp] theorem ftyp_102_3 : ftyp Tryz.prog 102 3 = some 2 := by kernel_rfl
@[simp] theorem foff_102_4 : foff Tryz.prog 102 4 = some 4 := by kernel_rfl
@[simp] theorem ftyp_102_4 : ftyp Tryz.prog 102 4 = some 3 := by kernel_rfl
@[simp] theorem foff_102_5 : foff Tryz.prog 102 5 = some 5 := by kernel_rfl
@[simp] theorem ftyp_102_5 : ftyp Tryz.prog 102 5 = some 2 := by kernel_rfl
@[simp] theorem foff_102_6 : foff Tryz.prog 102 6 = some 6 := by kernel_rfl
@[simp] theorem ftyp_102_6 : ftyp Tryz.prog 102 6 = some 2 := by kernel_rfl
@[simp] theorem fplace_102 : fplace Tryz.prog 102 = some [(0, 1), (1, 1), (2, 1), (3, 1), (4, 1), (5, 1), (6, 1)] := by kernel_rfl
@[simp] theorem flat_102 : flatStruct Tryz.prog 102 = some [.int .i64, .int .i64, .int .i64, .int .i64, .int .i64, .int .i64, .int .i64] := by kernel_rfl
@[simp] theorem tk_104 : tk Tryz.prog 104 = .func := by kernel_rfl
@[simp] theorem tsz_104 : tsz Tryz.prog 104 = some 1 := by kernel_rfl
@[simp] theorem tk_110 : tk Tryz.prog 110 = .arr 24 5 := by kernel_rfl
@[simp] theorem tsz_110 : tsz Tryz.prog 110 = some 24 := by kernel_rfl
@[simp] theorem tzero_110 : tzero Tryz.prog 110 = some ([.d (.int .u8 0), .d (.int .u8 0), .d (.int .u8 0), .d (.int .u8 0), .d (.int .u8 0), .d (.int .u8 0), .d (.int .u8 0), .d (.int .u8 0), .d (.int .u8 0), .d (.int .u8 0), .d (.int .u8 0), .d (.int .u8 0), .d (.int .u8 0), .d (.int .u8 0), .d (.int .u8 0), .d (.int .u8 0), .d (.int .u8 0), .d (.int .u8 0), .d (.int .u8 0), .d (.int .u8 0), .d (.int .u8 0), .d (.int .u8 0), .d (.int .u8 0), .d (.int .u8 0)]) := by kernel_rfl
@[simp] theorem tbytes_110 : tbytes Tryz.prog 110 = some 24 := by kernel_rfl
@[simp] theorem tzeroD_110 : tzeroD Tryz.prog 110 = some (.agg ([.int .u8 0, .int .u8 0, .int .u8 0, .int .u8 0, .int .u8 0, .int .u8 0, .int .u8 0, .int .u8 0, .int .u8 0, .int .u8 0, .int .u8 0, .int .u8 0, .int .u8 0, .int .u8 0, .int .u8 0, .int .u8 0, .int .u8 0, .int .u8 0, .int .u8 0, .int .u8 0, .int .u8 0, .int .u8 0, .int .u8 0, .int .u8 0])) := by kernel_rfl
@[simp] theorem fplace_110 : fplace Tryz.prog 110 = none := by kernel_rfl
@[simp] theorem tk_111 : tk Tryz.prog 111 = .int .u64 := by kernel_rfl
@[simp] theorem tsz_111 : tsz Tryz.prog 111 = some 1 := by kernel_rfl
@[simp] theorem tzero_111 : tzero Tryz.prog 111 = some ([.d (.int .u64 0)]) := by kernel_rfl
@[simp] theorem tbytes_111 : tbytes Tryz.prog 111 = some 8 := by kernel_rfl
@[simp] theorem tzeroD_111 : tzeroD Tryz.prog 111 = some (.int .u64 0) := by kernel_rfl
@[simp] theorem tk_114 : tk Tryz.prog 114 = .slice 5 := by kernel_rfl
@[simp] theorem tsz_114 : tsz Tryz.prog 114 = some 1 := by kernel_rfl
@[simp] theorem tzero_114 : tzero Tryz.prog 114 = some ([.lit (.slice none 0 0)]) := by kernel_rfl
@[simp] theorem tbytes_114 : tbytes Tryz.prog 114 = some 24 := by kernel_rfl
@[simp] theorem tzeroD_114 : tzeroD Tryz.prog 114 = some (.list []) := by kernel_rfl
@[simp] theorem srcTy_114 : srcTy Tryz.prog 114 = true := by kernel_rfl
@[simp] theorem tk_117 : tk Tryz.prog 117 = .int .u64 := by kernel_rfl
@[simp] theorem tsz_117 : tsz Tryz.prog 117 = some 1 := by kernel_rfl
@[simp] theorem tzero_117 : tzero Tryz.prog 117 = some ([.d (.int .u64 0)]) := by kernel_rfl
@[simp] theorem tbytes_117 : tbytes Tryz.prog 117 = some 8 := by kernel_rfl
@[simp] theorem tzeroD_117 : tzeroD Tryz.prog 117 = some (.int .u64 0) := by kernel_rfl
@[simp] theorem tk_120 : tk Tryz.prog 120 = .func := by kernel_rfl
@[simp] theorem tsz_120 : tsz Tryz.prog 120 = some 1 := by kernel_rfl
@[simp] theorem tk_122 : tk Tryz.prog 122 = .func := by kernel_rfl
@[simp] theorem tsz_122 : tsz Tryz.prog 122 = some 1 := by kernel_rfl
@[simp] theorem tk_123 : tk Tryz.prog 123 = .slice 41 := by kernel_rfl
@[simp] theorem tsz_123 : tsz Tryz.prog 123 = some 1 := by kernel_rfl
@[simp] theorem tzero_123 : tzero Tryz.prog 123 = some ([.lit (.slice none 0 0)]) := by kernel_rfl
@[simp] theorem tbytes_123 : tbytes Tryz.prog 123 = some 24 := by kernel_rfl
@[simp] theorem tzeroD_123 : tzeroD Tryz.prog 123 = some (.list []) := by kernel_rfl
@[simp] theorem srcTy_123 : srcTy Tryz.prog 123 = true := by kernel_rfl
@[simp] theorem tk_128 : tk Tryz.prog 128 = .func := by kernel_rfl
@[simp] theorem tsz_128 : tsz Tryz.prog 128 = some 1 := by kernel_rfl
@[simp] theorem tk_129 : tk Tryz.prog 129 = .iface := by kernel_rfl
@[simp] theorem tsz_129 : tsz Tryz.prog 129 = some 1 := by kernel_rfl
@[simp] theorem tk_130 : tk Tryz.prog 130 = .iface := by kernel_rfl
@[simp] theorem tsz_130 : tsz Tryz.prog 130 = some 1 := by kernel_rfl
@[simp] theorem tk_135 : tk Tryz.prog 135 = .arr 20 111 := by kernel_rfl
@[simp] theorem tsz_135 : tsz Tryz.prog 135 = some 20 := by kernel_rfl
@[simp] theorem tzero_135 : tzero Tryz.prog 135 = some ([.d (.int .u64 0), .d (.int .u64 0), .d (.int .u64 0), .d (.int .u64 0), .d (.int .u64 0), .d (.int .u64 0), .d (.int .u64 0), .d (.int .u64 0), .d (.int .u64 0), .d (.int .u64 0), .d (.int .u64 0), .d (.int .u64 0), .d (.int .u64 0), .d (.int .u64 0), .d (.int .u64 0), .d (.int .u64 0), .d (.int .u64 0), .d (.int .u64 0), .d (.int .u64 0), .d (.int .u64 0)]) := by kernel_rfl
@[simp] theorem tbytes_135 : tbytes Tryz.prog 135 = some 160 := by kernel_rfl
@[simp] theorem tzeroD_135 : tzeroD Tryz.prog 135 = some (.agg ([.int .u64 0, .int .u64 0, .int .u64 0, .int .u64 0, .int .u64 0, .int .u64 0, .int .u64 0, .int .u64 0, .int .u64 0, .int .u64 0, .int .u64 0, .int .u64 0, .int .u64 0, .int .u64 0, .int .u64 0, .int .u64 0, .int .u64 0, .int .u64 0, .int .u64 0, .int .u64 0])) := by kernel_rfl
@[simp] theorem fplace_135 : fplace Tryz.prog 135 = none := by kernel_rfl
@[simp] theorem tk_136 : tk Tryz.prog 136 = .int .u32 := by kernel_rfl
@[simp] theorem tsz_136 : tsz Tryz.prog 136 = some 1 := by kernel_rfl
@[simp] theorem tzero_136 : tzero Tryz.prog 136 = some ([.d (.int .u32 0)]) := by kernel_rfl
@[simp] theorem tbytes_136 : tbytes Tryz.prog 136 = some 4 := by kernel_rfl
@[simp] theorem tzeroD_136 : tzeroD Tryz.prog 136 = some (.int .u32 0) := by kernel_rfl
@[simp] theorem tk_137 : tk Tryz.prog 137 = .arr 65 5 := by kernel_rfl
@[simp] theorem tsz_137 : tsz Tryz.prog 137 = some 65 := by kernel_rfl
@[simp] theorem tzero_137 : tzero Tryz.prog 137 = some (List.replicate 65 (.d (.int .u8 0))) := by kernel_rfl
@[simp] theorem tbytes_137 : tbytes Tryz.prog 137 = some 65 := by kernel_rfl
@[simp] theorem tzeroD_137 : tzeroD Tryz.prog 137 = some (.agg (List.replicate 65 (.int .u8 0))) := by kernel_rfl
@[simp] theorem fplace_137 : fplace Tryz.prog 137 = none := by kernel_rfl
@[simp] theorem tk_147 : tk Tryz.prog 147 = .arr 256 5 := by kernel_rfl
@[simp] theorem tsz_147 : tsz Tryz.prog 147 = some 256 := by kernel_rfl
@[simp] theorem tzero_147 : tzero Tryz.prog 147 = some (List.replicate 256 (.d (.int .u8 0))) := by kernel_rfl
@[simp] theorem tbytes_147 : tbytes Tryz.prog 147 = some 256 := by kernel_rfl
@[simp] theorem tzeroD_147 : tzeroD Tryz.prog 147 = some (.agg (List.replicate 256 (.int .u8 0))) := by kernel_rfl
@[simp] theorem fplace_147 : fplace Tryz.prog 147 = none := by kernel_rfl
@[simp] theorem tk_148 : tk Tryz.prog 148 = .struct := by kernel_rfl
@[simp] theorem tsz_148 : tsz Tryz.prog 148 = some 2 := by kernel_rfl
@[simp] theorem tzero_148 : tzero Tryz.prog 148 = some ([.d (.int .u8 0), .d (.int .u8 0)]) := by kernel_rfl
@[simp] theorem tbytes_148 : tbytes Tryz.prog 148 = some 2 := by kernel_rfl
@[simp] theorem tzeroD_148 : tzeroD Tryz.prog 148 = some (.agg ([.int .u8 0, .int .u8 0])) := by kernel_rfl
@[simp] theorem foff_148_0 : foff Tryz.prog 148 0 = some 0 := by kernel_rfl
@[simp] theorem ftyp_148_0 : ftyp Tryz.prog 148 0 = some 5 := by kernel_rfl
@[simp] theorem foff_148_1 : foff Tryz.prog 148 1 = some 1 := by kernel_rfl
@[simp] theorem ftyp_148_1 : ftyp Tryz.prog 148 1 = some 5 := by kernel_rfl
@[simp] theorem fplace_148 : fplace Tryz.prog 148 = some [(0, 1), (1, 1)] := by kernel_rfl
@[simp] theorem flat_148 : flatStruct Tryz.prog 148 = some [.int .u8, .int .u8] := by kernel_rfl
@[simp] theorem tk_149 : tk Tryz.prog 149 = .struct := by kernel_rfl
@[simp] theorem tsz_149 : tsz Tryz.prog 149 = some 2 := by kernel_rfl
@[simp] theorem tzero_149 : tzero Tryz.prog 149 = some ([.d (.int .u8 0), .d (.int .u8 0)]) := by kernel_rfl
@[simp] theorem tbytes_149 : tbytes Tryz.prog 149 = some 2 := by kernel_rfl
@[simp] theorem tzeroD_149 : tzeroD Tryz.prog 149 = some (.agg ([.int .u8 0, .int .u8 0])) := by kernel_rfl
@[simp] theorem foff_149_0 : foff Tryz.prog 149 0 = some 0 := by kernel_rfl
@[simp] theorem ftyp_149_0 : ftyp Tryz.prog 149 0 = some 5 := by kernel_rfl
@[simp] theorem foff_149_1 : foff Tryz.prog 149 1 = some 1 := by kernel_rfl
@[simp] theorem ftyp_149_1 : ftyp Tryz.prog 149 1 = some 5 := by kernel_rfl
@[simp] theorem fplace_149 : fplace Tryz.prog 149 = some [(0, 1), (1, 1)] := by kernel_rfl
@[simp] theorem flat_149 : flatStruct Tryz.prog 149 = some [.int .u8, .int .u8] := by kernel_rfl
@[simp] theorem tk_150 : tk Tryz.prog 150 = .arr 16 149 := by kernel_rfl
@[simp] theorem tsz_150 : tsz Tryz.prog 150 = some 32 := by kernel_rfl
@[simp] theorem tzero_150 : tzero Tryz.prog 150 = some ([.d (.int .u8 0), .d (.int .u8 0), .d (.int .u8 0), .d (.int .u8 0), .d (.int .u8 0), .d (.int .u8 0), .d (.int .u8 0), .d (.int .u8 0), .d (.int .u8 0), .d (.int .u8 0), .d (.int .u8 0), .d (.int .u8 0), .d (.int .u8 0), .d (.int .u8 0), .d (.int .u8 0), .d (.int .u8 0), .d (.int .u8 0), .d (.int .u8 0), .d (.int .u8 0), .d (.int .u8 0), .d (.int .u8 0), .d (.int .u8 0), .d (.int .u8 0), .d (.int .u8 0), .d (.int .u8 0), .d (.int .u8 0), .d (.int .u8 0), .d (.int .u8 0), .d (.int .u8 0), .d (.int .u8 0), .d (.int .u8 0), .d (.int .u8 0)]) := by kernel_rfl
@[simp] theorem tbytes_150 : tbytes Tryz.prog 150 = some 32 := by kernel_rfl
@[simp] theorem tzeroD_150 : tzeroD Tryz.prog 150 = some (.agg ([.int .u8 0, .int .u8 0, .int .u8 0, .int .u8 0, .int .u8 0, .int .u8 0, .int .u8 0, .int .u8 0, .int .u8 0, .int .u8 0, .int .u8 0, .int .u8 0, .int .u8 0, .int .u8 0, .int .u8 0, .int .u8 0, .int .u8 0, .int .u8 0, .int .u8 0, .int .u8 0, .int .u8 0, .int .u8 0, .int .u8 0, .int .u8 0, .int .u8 0, .int .u8 0, .int .u8 0, .int .u8 0, .int .u8 0, .int .u8 0, .int .u8 0, .int .u8 0])) := by kernel_rfl
@[simp] theorem fplace_150 : fplace Tryz.prog 150 = none := by kernel_rfl
@[simp] theorem tk_152 : tk Tryz.prog 152 = .int .i64 := by kernel_rfl
@[simp] theorem tsz_152 : tsz Tryz.prog 152 = some 1 := by kernel_rfl
@[simp] theorem tzero_152 : tzero Tryz.prog 152 = some ([.d (.int .i64 0)]) := by kernel_rfl
@[simp] theorem tbytes_152 : tbytes Tryz.prog 152 = some 8 := by kernel_rfl
@[simp] theorem tzeroD_152 : tzeroD Tryz.prog 152 = some (.int .i64 0) := by kernel_rfl
@[simp] theorem tk_155 : tk Tryz.prog 155 = .ptr 163 := by kernel_rfl
@[simp] theorem tsz_155 : tsz Tryz.prog 155 = some 1 := by kernel_rfl
@[simp] theorem tk_158 : tk Tryz.prog 158 = .arr 32 5 := by kernel_rfl
@[simp] theorem tsz_158 : tsz Tryz.prog 158 = some 32 := by kernel_rfl
@[simp] theorem tzero_158 : tzero Tryz.prog 158 = some ([.d (.int .u8 0), .d (.int .u8 0), .d (.int .u8 0), .d (.int .u8 0), .d (.int .u8 0), .d (.int .u8 0), .d (.int .u8 0), .d (.int .u8 0), .d (.int .u8 0), .d (.int .u8 0), .d (.int .u8 0), .d (.int .u8 0), .d (.int .u8 0), .d (.int .u8 0), .d (.int .u8 0), .d (.int .u8 0), .d (.int .u8 0), .d (.int .u8 0), .d (.int .u8 0), .d (.int .u8 0), .d (.int .u8 0), .d (.int .u8 0), .d (.int .u8 0), .d (.int .u8 0), .d (.int .u8 0), .d (.int .u8 0), .d (.int .u8 0), .d (.int .u8 0), .d (.int .u8 0), .d (.int .u8 0), .d (.int .u8 0), .d (.int .u8 0)]) := by kernel_rfl
@[simp] theorem tbytes_158 : tbytes Tryz.prog 158 = some 32 := by kernel_rfl
@[simp] theorem tzeroD_158 : tzeroD Tryz.prog 158 = some (.agg ([.int .u8 0, .int .u8 0, .int .u8 0, .int .u8 0, .int .u8 0, .int .u8 0, .int .u8 0, .int .u8 0, .int .u8 0, .int .u8 0, .int .u8 0, .int .u8 0, .int .u8 0, .int .u8 0, .int .u8 0, .int .u8 0, .int .u8 0, .int .u8 0, .int .u8 0, .int .u8 0, .int .u8 0, .int .u8 0, .int .u8 0, .int .u8 0, .int .u8 0, .int .u8 0, .int .u8 0, .int .u8 0, .int .u8 0, .int .u8 0, .int .u8 0, .int .u8 0])) := by kernel_rfl
@[simp] theorem fplace_158 : fplace Tryz.prog 158 = none := by kernel_rfl
@[simp] theorem tk_159 : tk Tryz.prog 159 = .arr 64 5 := by kernel_rfl
@[simp] theorem tsz_159 : tsz Tryz.prog 159 = some 64 := by kernel_rfl
@[simp] theorem tzero_159 : tzero Tryz.prog 159 = some (List.replicate 64 (.d (.int .u8 0))) := by kernel_rfl
@[simp] theorem tbytes_159 : tbytes Tryz.prog 159 = some 64 := by kernel_rfl
@[simp] theorem tzeroD_159 : tzeroD Tryz.prog 159 = some (.agg (List.replicate 64 (.int .u8 0))) := by kernel_rfl
@[simp] theorem fplace_159 : fplace Tryz.prog 159 = none := by kernel_rfl
@[simp] theorem tk_162 : tk Tryz.prog 162 = .struct := by kernel_rfl
@[simp] theorem tsz_162 : tsz Tryz.prog 162 = some 3 := by kernel_rfl
@[simp] theorem tzero_162 : tzero Tryz.prog 162 = some ([.d (.str []), .d (.str []), .lit .nilIface]) := by kernel_rfl
@[simp] theorem foff_162_0 : foff Tryz.prog 162 0 = some 0 := by kernel_rfl
@[simp] theorem ftyp_162_0 : ftyp Tryz.prog 162 0 = some 9 := by kernel_rfl
@[simp] theorem foff_162_1 : foff Tryz.prog 162 1 = some 1 := by kernel_rfl
@[simp] theorem ftyp_162_1 : ftyp Tryz.prog 162 1 = some 9 := by kernel_rfl
@[simp] theorem foff_162_2 : foff Tryz.prog 162 2 = some 2 := by kernel_rfl
@[simp] theorem ftyp_162_2 : ftyp Tryz.prog 162 2 = some 130 := by kernel_rfl
@[simp] theorem fplace_162 : fplace Tryz.prog 162 = some [(0, 1), (1, 1), (2, 1)] := by kernel_rfl
@[simp] theorem tk_163 : tk Tryz.prog 163 = .struct := by kernel_rfl
@[simp] theorem tsz_163 : tsz Tryz.prog 163 = some 3 := by kernel_rfl
@[simp] theorem tzero_163 : tzero Tryz.prog 163 = some ([.d (.str []), .d (.str []), .lit .nilIface]) := by kernel_rfl
@[simp] theorem foff_163_0 : foff Tryz.prog 163 0 = some 0 := by kernel_rfl
@[simp] theorem ftyp_163_0 : ftyp Tryz.prog 163 0 = some 9 := by kernel_rfl
@[simp] theorem foff_163_1 : foff Tryz.prog 163 1 = some 1 := by kernel_rfl
@[simp] theorem ftyp_163_1 : ftyp Tryz.prog 163 1 = some 9 := by kernel_rfl
@[simp] theorem foff_163_2 : foff Tryz.prog 163 2 = some 2 := by kernel_rfl
@[simp] theorem ftyp_163_2 : ftyp Tryz.prog 163 2 = some 130 := by kernel_rfl
@[simp] theorem fplace_163 : fplace Tryz.prog 163 = some [(0, 1), (1, 1), (2, 1)] := by kernel_rfl
@[simp] theorem tk_165 : tk Tryz.prog 165 = .ptr 5 := by kernel_rfl
@[simp] theorem tsz_165 : tsz Tryz.prog 165 = some 1 := by kernel_rfl
@[simp] theorem tk_166 : tk Tryz.prog 166 = .ptr 168 := by kernel_rfl
@[simp] theorem tsz_166 : tsz Tryz.prog 166 = some 1 := by kernel_rfl
@[simp] theorem tk_167 : tk Tryz.prog 167 = .struct := by kernel_rfl
@[simp] theorem tsz_167 : tsz Tryz.prog 167 = some 1 := by kernel_rfl
@[simp] theorem tzero_167 : tzero Tryz.prog 167 = some ([.d (.str [])]) := by kernel_rfl
@[simp] theorem tbytes_167 : tbytes Tryz.prog 167 = some 16 := by kernel_rfl
@[simp] theorem tzeroD_167 : tzeroD Tryz.prog 167 = some (.agg ([.str []])) := by kernel_rfl
@[simp] theorem foff_167_0 : foff Tryz.prog 167 0 = some 0 := by kernel_rfl
@[simp] theorem ftyp_167_0 : ftyp Tryz.prog 167 0 = some 9 := by kernel_rfl
@[simp] theorem fplace_167 : fplace Tryz.prog 167 = some [(0, 1)] := by kernel_rfl
@[simp] theorem flat_167 : flatStruct Tryz.prog 167 = some [.str] := by kernel_rfl
@[simp] theorem tk_168 : tk Tryz.prog 168 = .struct := by kernel_rfl
@[simp] theorem tsz_168 : tsz Tryz.prog 168 = some 1 := by kernel_rfl
@[simp] theorem tzero_168 : tzero Tryz.prog 168 = some ([.d (.str [])]) := by kernel_rfl
@[simp] theorem tbytes_168 : tbytes Tryz.prog 168 = some 16 := by kernel_rfl
@[simp] theorem tzeroD_168 : tzeroD Tryz.prog 168 = some (.agg ([.str []])) := by kernel_rfl
@[simp] theorem foff_168_0 : foff Tryz.prog 168 0 = some 0 := by kernel_rfl
@[simp] theorem ftyp_168_0 : ftyp Tryz.prog 168 0 = some 9 := by kernel_rfl
@[simp] theorem fplace_168 : fplace Tryz.prog 168 = some [(0, 1)] := by kernel_rfl
@[simp] theorem flat_168 : flatStruct Tryz.prog 168 = some [.str] := by kernel_rfl
@[simp] theorem tk_170 : tk Tryz.prog 170 = .struct := by kernel_rfl
@[simp] theorem tsz_170 : tsz Tryz.prog 170 = some 4 := by kernel_rfl
@[simp] theorem tzero_170 : tzero Tryz.prog 170 = some ([.lit (.pointer none), .lit (.pointer none), .lit (.pointer none), .d (.str [])]) := by kernel_rfl
@[simp] theorem foff_170_0 : foff Tryz.prog 170 0 = some 0 := by kernel_rfl
@[simp] theorem ftyp_170_0 : ftyp Tryz.prog 170 0 = some 17 := by kernel_rfl
@[simp] theorem foff_170_1 : foff Tryz.prog 170 1 = some 1 := by kernel_rfl
@[simp] theorem ftyp_170_1 : ftyp Tryz.prog 170 1 = some 17 := by kernel_rfl
@[simp] theorem foff_170_2 : foff Tryz.prog 170 2 = some 2 := by kernel_rfl
@[simp] theorem ftyp_170_2 : ftyp Tryz.prog 170 2 = some 17 := by kernel_rfl
@[simp] theorem foff_170_3 : foff Tryz.prog 170 3 = some 3 := by kernel_rfl
@[simp] theorem ftyp_170_3 : ftyp Tryz.prog 170 3 = some 9 := by kernel_rfl
@[simp] theorem fplace_170 : fplace Tryz.prog 170 = some [(0, 1), (1, 1), (2, 1), (3, 1)] := by kernel_rfl
@[simp] theorem tk_171 : tk Tryz.prog 171 = .struct := by kernel_rfl
@[simp] theorem tsz_171 : tsz Tryz.prog 171 = some 4 := by kernel_rfl
@[simp] theorem tzero_171 : tzero Tryz.prog 171 = some ([.lit (.pointer none), .lit (.pointer none), .lit (.pointer none), .d (.str [])]) := by kernel_rfl
@[simp] theorem foff_171_0 : foff Tryz.prog 171 0 = some 0 := by kernel_rfl
@[simp] theorem ftyp_171_0 : ftyp Tryz.prog 171 0 = some 17 := by kernel_rfl
@[simp] theorem foff_171_1 : foff Tryz.prog 171 1 = some 1 := by kernel_rfl
@[simp] theorem ftyp_171_1 : ftyp Tryz.prog 171 1 = some 17 := by kernel_rfl
@[simp] theorem foff_171_2 : foff Tryz.prog 171 2 = some 2 := by kernel_rfl
@[simp] theorem ftyp_171_2 : ftyp Tryz.prog 171 2 = some 17 := by kernel_rfl
@[simp] theorem foff_171_3 : foff Tryz.prog 171 3 = some 3 := by kernel_rfl
@[simp] theorem ftyp_171_3 : ftyp Tryz.prog 171 3 = some 9 := by kernel_rfl
@[simp] theorem fplace_171 : fplace Tryz.prog 171 = some [(0, 1), (1, 1), (2, 1), (3, 1)] := by kernel_rfl
@[simp] theorem tk_172 : tk Tryz.prog 172 = .arr 0 16 := by kernel_rfl
@[simp] theorem tsz_172 : tsz Tryz.prog 172 = some 0 := by kernel_rfl
@[simp] theorem tzero_172 : tzero Tryz.prog 172 = some ([]) := by kernel_rfl
@[simp] theorem tbytes_172 : tbytes Tryz.prog 172 = some 0 := by kernel_rfl
@[simp] theorem tzeroD_172 : tzeroD Tryz.prog 172 = some (.agg ([])) := by kernel_rfl
@[simp] theorem fplace_172 : fplace Tryz.prog 172 = none := by kernel_rfl
@[simp] theorem tk_173 : tk Tryz.prog 173 = .struct := by kernel_rfl
@[simp] theorem tsz_173 : tsz Tryz.prog 173 = some 0 := by kernel_rfl
@[simp] theorem tzero_173 : tzero Tryz.prog 173 = some ([]) := by kernel_rfl
@[simp] theorem tbytes_173 : tbytes Tryz.prog 173 = some 0 := by kernel_rfl
@[simp] theorem tzeroD_173 : tzeroD Tryz.prog 173 = some (.agg ([])) := by kernel_rfl
@[simp] theorem fplace_173 : fplace Tryz.prog 173 = some [(0, 0)] := by kernel_rfl
@[simp] theorem tk_174 : tk Tryz.prog 174 = .struct := by kernel_rfl
@[simp] theorem tsz_174 : tsz Tryz.prog 174 = some 0 := by kernel_rfl
@[simp] theorem tzero_174 : tzero Tryz.prog 174 = some ([]) := by kernel_rfl
@[simp] theorem tbytes_174 : tbytes Tryz.prog 174 = some 0 := by kernel_rfl
@[simp] theorem tzeroD_174 : tzeroD Tryz.prog 174 = some (.agg ([])) := by kernel_rfl
@[simp] theorem fplace_174 : fplace Tryz.prog 174 = some [(0, 0)] := by kernel_rfl
@[simp] theorem tk_176 : tk Tryz.prog 176 = .int .u8 := by kernel_rfl
@[simp] theorem tsz_176 : tsz Tryz.prog 176 = some 1 := by kernel_rfl
@[simp] theorem tzero_176 : tzero Tryz.prog 176 = some ([.d (.int .u8 0)]) := by kernel_rfl
@[simp] theorem tbytes_176 : tbytes Tryz.prog 176 = some 1 := by kernel_rfl
@[simp] theorem tzeroD_176 : tzeroD Tryz.prog 176 = some (.int .u8 0) := by kernel_rfl
@[simp] theorem tk_177 : tk Tryz.prog 177 = .int .u8 := by kernel_rfl
@[simp] theorem tsz_177 : tsz Tryz.prog 177 = some 1 := by kernel_rfl
@[simp] theorem tzero_177 : tzero Tryz.prog 177 = some ([.d (.int .u8 0)]) := by kernel_rfl
@[simp] theorem tbytes_177 : tbytes Tryz.prog 177 = some 1 := by kernel_rfl
@[simp] theorem tzeroD_177 : tzeroD Tryz.prog 177 = some (.int .u8 0) := by kernel_rfl
@[simp] theorem tk_178 : tk Tryz.prog 178 = .func := by kernel_rfl
@[simp] theorem tsz_178 : tsz Tryz.prog 178 = some 1 := by kernel_rfl
@[simp] theorem tk_179 : tk Tryz.prog 179 = .int .i32 := by kernel_rfl
@[simp] theorem tsz_179 : tsz Tryz.prog 179 = some 1 := by kernel_rfl
@[simp] theorem tzero_179 : tzero Tryz.prog 179 = some ([.d (.int .i32 0)]) := by kernel_rfl
@[simp] theorem tbytes_179 : tbytes Tryz.prog 179 = some 4 := by kernel_rfl
@[simp] theorem tzeroD_179 : tzeroD Tryz.prog 179 = some (.int .i32 0) := by kernel_rfl
@[simp] theorem tk_180 : tk Tryz.prog 180 = .int .i32 := by kernel_rfl
@[simp] theorem tsz_180 : tsz Tryz.prog 180 = some 1 := by kernel_rfl
@[simp] theorem tzero_180 : tzero Tryz.prog 180 = some ([.d (.int .i32 0)]) := by kernel_rfl
@[simp] theorem tbytes_180 : tbytes Tryz.prog 180 = some 4 := by kernel_rfl
@[simp] theorem tzeroD_180 : tzeroD Tryz.prog 180 = some (.int .i32 0) := by kernel_rfl
@[simp] theorem tk_181 : tk Tryz.prog 181 = .struct := by kernel_rfl
@[simp] theorem tsz_181 : tsz Tryz.prog 181 = some 11 := by kernel_rfl
@[simp] theorem tzero_181 : tzero Tryz.prog 181 = some ([.d (.int .u64 0), .d (.int .u64 0), .d (.int .u32 0), .d (.int .u8 0), .d (.int .u8 0), .d (.int .u8 0), .d (.int .u8 0), .lit .nilFunc, .lit (.pointer none), .d (.int .i32 0), .d (.int .i32 0)]) := by kernel_rfl
@[simp] theorem foff_181_0 : foff Tryz.prog 181 0 = some 0 := by kernel_rfl
@[simp] theorem ftyp_181_0 : ftyp Tryz.prog 181 0 = some 12 := by kernel_rfl
@[simp] theorem foff_181_1 : foff Tryz.prog 181 1 = some 1 := by kernel_rfl
@[simp] theorem ftyp_181_1 : ftyp Tryz.prog 181 1 = some 12 := by kernel_rfl
@[simp] theorem foff_181_2 : foff Tryz.prog 181 2 = some 2 := by kernel_rfl
@[simp] theorem ftyp_181_2 : ftyp Tryz.prog 181 2 = some 136 := by kernel_rfl
@[simp] theorem foff_181_3 : foff Tryz.prog 181 3 = some 3 := by kernel_rfl
@[simp] theorem ftyp_181_3 : ftyp Tryz.prog 181 3 = some 176 := by kernel_rfl
@[simp] theorem foff_181_4 : foff Tryz.prog 181 4 = some 4 := by kernel_rfl
@[simp] theorem ftyp_181_4 : ftyp Tryz.prog 181 4 = some 5 := by kernel_rfl
@[simp] theorem foff_181_5 : foff Tryz.prog 181 5 = some 5 := by kernel_rfl
@[simp] theorem ftyp_181_5 : ftyp Tryz.prog 181 5 = some 5 := by kernel_rfl
@[simp] theorem foff_181_6 : foff Tryz.prog 181 6 = some 6 := by kernel_rfl
@[simp] theorem ftyp_181_6 : ftyp Tryz.prog 181 6 = some 177 := by kernel_rfl
@[simp] theorem foff_181_7 : foff Tryz.prog 181 7 = some 7 := by kernel_rfl
@[simp] theorem ftyp_181_7 : ftyp Tryz.prog 181 7 = some 178 := by kernel_rfl
@[simp] theorem foff_181_8 : foff Tryz.prog 181 8 = some 8 := by kernel_rfl
@[simp] theorem ftyp_181_8 : ftyp Tryz.prog 181 8 = some 165 := by kernel_rfl
@[simp] theorem foff_181_9 : foff Tryz.prog 181 9 = some 9 := by kernel_rfl
@[simp] theorem ftyp_181_9 : ftyp Tryz.prog 181 9 = some 179 := by kernel_rfl
@[simp] theorem foff_181_10 : foff Tryz.prog 181 10 = some 10 := by kernel_rfl
@[simp] theorem ftyp_181_10 : ftyp Tryz.prog 181 10 = some 180 := by kernel_rfl
@[simp] theorem fplace_181 : fplace Tryz.prog 181 = some [(0, 1), (1, 1), (2, 1), (3, 1), (4, 1), (5, 1), (6, 1), (7, 1), (8, 1), (9, 1), (10, 1)] := by kernel_rfl
@[simp] theorem tk_182 : tk Tryz.prog 182 = .struct := by kernel_rfl
@[simp] theorem tsz_182 : tsz Tryz.prog 182 = some 11 := by kernel_rfl
@[simp] theorem tzero_182 : tzero Tryz.prog 182 = some ([.d (.int .u64 0), .d (.int .u64 0), .d (.int .u32 0), .d (.int .u8 0), .d (.int .u8 0), .d (.int .u8 0), .d (.int .u8 0), .lit .nilFunc, .lit (.pointer none), .d (.int .i32 0), .d (.int .i32 0)]) := by kernel_rfl
@[simp] theorem foff_182_0 : foff Tryz.prog 182 0 = some 0 := by kernel_rfl
@[simp] theorem ftyp_182_0 : ftyp Tryz.prog 182 0 = some 12 := by kernel_rfl
@[simp] theorem foff_182_1 : foff Tryz.prog 182 1 = some 1 := by kernel_rfl
@[simp] theorem ftyp_182_1 : ftyp Tryz.prog 182 1 = some 12 := by kernel_rfl
@[simp] theorem foff_182_2 : foff Tryz.prog 182 2 = some 2 := by kernel_rfl
@[simp] theorem ftyp_182_2 : ftyp Tryz.prog 182 2 = some 136 := by kernel_rfl
@[simp] theorem foff_182_3 : foff Tryz.prog 182 3 = some 3 := by kernel_rfl
@[simp] theorem ftyp_182_3 : ftyp Tryz.prog 182 3 = some 176 := by kernel_rfl
@[simp] theorem foff_182_4 : foff Tryz.prog 182 4 = some 4 := by kernel_rfl
@[simp] theorem ftyp_182_4 : ftyp Tryz.prog 182 4 = some 5 := by kernel_rfl
@[simp] theorem foff_182_5 : foff Tryz.prog 182 5 = some 5 := by kernel_rfl
@[simp] theorem ftyp_182_5 : ftyp Tryz.prog 182 5 = some 5 := by kernel_rfl
@[simp] theorem foff_182_6 : foff Tryz.prog 182 6 = some 6 := by kernel_rfl
@[simp] theorem ftyp_182_6 : ftyp Tryz.prog 182 6 = some 177 := by kernel_rfl
@[simp] theorem foff_182_7 : foff Tryz.prog 182 7 = some 7 := by kernel_rfl
@[simp] theorem ftyp_182_7 : ftyp Tryz.prog 182 7 = some 178 := by kernel_rfl
@[simp] theorem foff_182_8 : foff Tryz.prog 182 8 = some 8 := by kernel_rfl
@[simp] theorem ftyp_182_8 : ftyp Tryz.prog 182 8 = some 165 := by kernel_rfl
@[simp] theorem foff_182_9 : foff Tryz.prog 182 9 = some 9 := by kernel_rfl
@[simp] theorem ftyp_182_9 : ftyp Tryz.prog 182 9 = some 179 := by kernel_rfl
@[simp] theorem foff_182_10 : foff Tryz.prog 182 10 = some 10 := by kernel_rfl
@[simp] theorem ftyp_182_10 : ftyp Tryz.prog 182 10 = some 180 := by kernel_rfl
@[simp] theorem fplace_182 : fplace Tryz.prog 182 = some [(0, 1), (1, 1), (2, 1), (3, 1), (4, 1), (5, 1), (6, 1), (7, 1), (8, 1), (9, 1), (10, 1)] := by kernel_rfl
end Go.Am
end
section
namespace Go.Am
open Go
def idxO : List D → Option D
  | [.str s, .str t] => if s.length < 4294967281 then some (.int .i64 (Go.Lib.index s t)) else none
  | _ => none
def ibO : List D → Option D
  | [.str s, .int .u8 c] => some (.int .i64 (Go.Lib.indexByte s c.toNat.toUInt8))
  | _ => none
def hpO : List D → Option D
  | [.str s, .str p] => some (.bool (Go.Lib.hasPrefix s p))
  | _ => none
attribute [simp] idxO.eq_1 ibO.eq_1 hpO.eq_1
end Go.Am
end
section
namespace Go.Am
open Go
def splitO : List D → Option D
  | [.str s, .str t] => if s.length < 4294967281 ∧ 1 ≤ t.length then some (.list ((Go.Lib.split s t).map .str)) else none
  | _ => none
def I64' (n : Int) : Prop := -9223372036854775808 ≤ n ∧ n ≤ 9223372036854775807
instance (n : Int) : Decidable (I64' n) := inferInstanceAs (Decidable (_ ∧ _))
def fiO : List D → Option D
  | [.int .i64 n, .int .i64 b] => if b = 10 ∧ I64' n then some (.str (Go.Lib.itoa n)) else none
  | _ => none
def itO : List D → Option D
  | [.int .i64 n] => if I64' n then some (.str (Go.Lib.itoa n)) else none
  | _ => none
def piA (s : List UInt8) : AV := match Go.Lib.parseIntB 64 s with
  | .ok n => .tup [.d (.int .i64 n), .lit .nilIface]
  | .syntax => .tup [.d (.int .i64 0), .err]
  | .range => .tup [.d (.int .i64 (Go.Lib.intSat 64 s)), .err]
def piO : List AV → Option AV
  | [.d (.str s), .d (.int .i64 b), .d (.int .i64 z)] => if b = 10 ∧ z = 64 ∧ s.length ≤ 281474976710656 then some (piA s) else none
  | _ => none
def ffO (g : Nat) (c : Int) : List AV → Option AV
  | [.d (.str s), .fn f []] => if f = g ∧ s.length ≤ 4294967296 then some (.d (.list ((Go.Lib.goFieldsP (fun r => decide ((r : Int) = c)) ⟨s.toArray⟩).map fun x => .str x.data.toList))) else none
  | _ => none
attribute [simp] splitO.eq_1 fiO.eq_1 itO.eq_1 piO.eq_1 ffO.eq_1
end Go.Am
end
section
namespace Go.Am
open Go
noncomputable def denDT (X : Ctx) (f : FuncId) (c : Code) (S : St) (ds : List DF) : XD := lim fun k => denD X f (callN X k) k c S ds
noncomputable def denRT (X : Ctx) (f : FuncId) (rv : AV) (c : Code) (S : St) : Option (XE × St) := lim fun k => denR X f (callN X k) k rv c S
noncomputable def recT (X : Ctx) : CallFn := fun g args cs => lim fun k => recFn X k (callN X k) g args cs
abbrev KtD := XE → St → List DF → Ans
noncomputable def denKD (X : Ctx) (f : FuncId) (c : Code) (S : St) (ds : List DF) (k : KtD) : Ans := (denDT X f c S ds).bind fun p => k p.1 p.2.1 p.2.2
noncomputable def runKD (X : Ctx) (md : Bool) (all ops : List Oper) (S : St) (ds : List DF) (k : KtD) : Ans := (runOpsD X (callT X) md all ops S ds).bind fun p => k p.1 p.2.1 p.2.2
noncomputable def seqKD (X : Ctx) (f : FuncId) (b : Code) (k : KtD) : KtD
  | .normal, S, ds => denKD X f b S ds k
  | e, S, ds => k e S ds
def leaveKD (X : Ctx) (f : FuncId) (id : Nat) (k : KtD) : KtD
  | .normal, S, ds => k .normal (S.leave X f id) ds
  | e, S, ds => k e S ds
noncomputable def nextKD (X : Ctx) (md : Bool) (all r : List Oper) (ds : List DF) (k : KtD) : Kt
  | .normal, S => runKD X md all r S ds k
  | e, S => k e S ds
noncomputable def oneKD (X : Ctx) (md : Bool) (all r : List Oper) (o : Oper) (S : St) (ds : List DF) (k : KtD) : Option DF → Ans
  | some d => runKD X md all r (S.put o.dst true .junk) (d :: ds) k
  | none => runK X md all [o] S (nextKD X md all r ds k)
section
variable {X : Ctx} {f : FuncId} {S : St} {ds : List DF} {md : Bool}
theorem runOpsD_lim (all : List Oper) : ∀ (ops : List Oper) (S : St) (ds : List DF), lim (fun k => runOpsD X (callN X k) md all ops S ds) = runOpsD X (callT X) md all ops S ds
  | [], S, ds => lim_const _
  | o :: r, S, ds => by
    simp only [runOpsD]
    cases deferOf S o with
    | some d => exact runOpsD_lim all r _ _
    | none =>
      simp only [nextD_eq]
      rw [lim_bind (g := fun x n => nT (fun S1 => runOpsD X (callN X n) md all r S1 ds) ds x) (gstep_mono (callN_cmono X) all) (fun x => by
        obtain ⟨e, S1⟩ := x
        cases e with
        | normal => exact runOpsD_mono (callN_cmono X) all r S1 ds
        | _ => exact Mono.const _), gstep_lim]
      congr 1
      funext x
      obtain ⟨e, S1⟩ := x
      cases e with
      | normal => exact runOpsD_lim all r S1 ds
      | _ => exact lim_const _
theorem dmD (c : Code) (S : St) (ds : List DF) : Mono (fun k => denD X f (callN X k) k c S ds) := denD_mono (callN_cmono X) f (m := fun k => k) (fun k => Nat.le_succ k) c S ds
theorem denDT_seq {a b : Code} : denDT X f (.seq a b) S ds = seqD (denDT X f b) (denDT X f a S ds) := by
  unfold denDT
  simp only [denD, seqD_eq]
  rw [lim_bind (g := fun x n => sT (denD X f (callN X n) n b) x) (dmD a S ds) (fun x => by
    obtain ⟨e, S1, ds1⟩ := x
    cases e with
    | normal => exact dmD b S1 ds1
    | _ => exact Mono.const _)]
  congr 1
  funext x
  obtain ⟨e, S1, ds1⟩ := x
  cases e <;> first | rfl | exact lim_const _
theorem denDT_add {c : Code} (h : ∀ k, denD X f (callN X k) k c S ds = addD ds (den X f (callN X k) k c S)) : denDT X f c S ds = addD ds (denT X f c S) := by
  unfold denDT denT
  have : (fun k => denD X f (callN X k) k c S ds) = fun k => (den X f (callN X k) k c S).bind fun q => dT ds q := by
    funext k; rw [h, addD_eq]
  rw [this, lim_bind (dm c S) (fun _ => Mono.const _), addD_eq]
  simp only [lim_const]
theorem denDT_reg {id : Nat} {ops : Array Oper} (h : hasDef ops.toList = true) : denDT X f (.region id ops false) S ds = leaveD (St.leave X f id) (runOpsD X (callT X) (X.md f id) ops.toList ops.toList S ds) := by
  unfold denDT
  have : (fun k => denD X f (callN X k) k (.region id ops false) S ds) = fun k => (runOpsD X (callN X k) (X.md f id) ops.toList ops.toList S ds).bind fun q => lT (St.leave X f id) q := by
    funext k
    simp only [denD, h, Bool.not_false, Bool.and_self, leaveD_eq]
  rw [this, lim_bind (runOpsD_mono (callN_cmono X) _ _ _ _) (fun _ => Mono.const _), runOpsD_lim, leaveD_eq]
  simp only [lim_const]
variable {k : KtD}
theorem denKD_seq {a b : Code} : denKD X f (.seq a b) S ds k = denKD X f a S ds (seqKD X f b k) := by
  simp only [denKD, denDT_seq]
  rcases denDT X f a S ds with _ | ⟨e, S1, ds1⟩
  · rfl
  · cases e <;> rfl
theorem denKD_add {c : Code} (h : denDT X f c S ds = addD ds (denT X f c S)) : denKD X f c S ds k = denK X f c S fun e S => k e S ds := by
  simp only [denKD, denK, h]
  rcases denT X f c S with _ | ⟨e, S1⟩ <;> rfl
theorem denKD_cond {o : Operand} {a b : Code} : denKD X f (.cond o a b) S ds k = denK X f (.cond o a b) S fun e S => k e S ds := denKD_add (denDT_add fun _ => rfl)
theorem denKD_ret : denKD X f .ret S ds k = denK X f .ret S fun e S => k e S ds := denKD_add (denDT_add fun _ => rfl)
theorem denKD_skip : denKD X f .skip S ds k = denK X f .skip S fun e S => k e S ds := denKD_add (denDT_add fun _ => rfl)
theorem denKD_loop {c : Code} : denKD X f (.loop c) S ds k = denK X f (.loop c) S fun e S => k e S ds := denKD_add (denDT_add fun _ => rfl)
theorem denKD_block {id : Nat} {c : Code} : denKD X f (.block id c) S ds k = denK X f (.block id c) S fun e S => k e S ds := denKD_add (denDT_add fun _ => rfl)
theorem denKD_draw {id : Nat} {ops : Array Oper} : denKD X f (.region id ops true) S ds k = denK X f (.region id ops true) S fun e S => k e S ds := denKD_add (denDT_add fun _ => rfl)
theorem denKD_reg {id : Nat} {l : List Oper} : denKD X f (.region id ⟨l⟩ false) S ds k = if hasDef l = true then runKD X (X.md f id) l l S ds (leaveKD X f id k) else denK X f (.region id ⟨l⟩ false) S fun e S => k e S ds := by
  split
  · rename_i h
    simp only [denKD, runKD, denDT_reg (ops := ⟨l⟩) h]
    rcases runOpsD X (callT X) (X.md f id) l l S ds with _ | ⟨e, S1, ds1⟩
    · rfl
    · cases e <;> rfl
  · rename_i h
    exact denKD_add (denDT_add fun _ => by simp [denD, h])
theorem runKD_nil {all : List Oper} : runKD X md all [] S ds k = k .normal S ds := rfl
theorem runKD_cons {all r : List Oper} {o : Oper} : runKD X md all (o :: r) S ds k = oneKD X md all r o S ds k (deferOf S o) := by
  simp only [runKD, runOpsD]
  cases deferOf S o with
  | some d => rfl
  | none =>
    simp only [oneKD, runK, runOps, nextD_eq, andThen_eq]
    rcases gstep X (callT X) md all S o with _ | ⟨e, S1⟩
    · rfl
    · cases e <;> rfl
end
end Go.Am
end
section
namespace Go.Am
open Go
noncomputable def finKD (X : Ctx) (p : FPol) (n0 : Nat) (rs : List ResultVar) : KtD
  | e, S, [] => finK X.P p n0 rs e S
  | e, S, [d] => finD1 X p n0 rs (recT X) S d (recA e)
  | _, _, _ => none
noncomputable def denRK (X : Ctx) (f : FuncId) (rv : AV) (c : Code) (S : St) (k : Kt) : Ans := (denRT X f rv c S).bind fun p => k p.1 p.2
def finRK (P : Program) (p : FPol) (n0 : Nat) (rs : List ResultVar) : Kt
  | .normal, S => finish P p n0 rs S
  | .ret, S => finish P p n0 rs S
  | _, _ => none
section
variable {X : Ctx} {f : FuncId} {S : St}
theorem recFn_cmono (X : Ctx) : CMono fun k => recFn X k (callN X k) := recFn_mono (callN_cmono X) (m := fun k => k) (fun k => Nat.le_succ k)
theorem callOpC_lim {C : Nat → CallFn} (hC : CMono C) (m : Mem) (k0 : Nat) (g : FuncId) (ys : List AV) (mt : List Nat) : lim (fun k => callOp (C k) m k0 g ys mt) = callOp (fun g a c => lim fun k => C k g a c) m k0 g ys mt := by
  unfold callOp callOp2 callOp3
  simp only [callBack_eq]
  rw [lim_bind (hC _ _ _) (fun _ => Mono.const _)]
  simp only [lim_const]
theorem finD1_lim (p : FPol) (n0 : Nat) (rs : List ResultVar) (d : DF) (rv : Option AV) : lim (fun k => finD1 X p n0 rs (recFn X k (callN X k)) S d rv) = finD1 X p n0 rs (recT X) S d rv := by
  cases rv with
  | none => exact lim_const _
  | some rv =>
    simp only [finD1, finM_eq, memC_eq S (callOp _ _ _ _ _ _)]
    rw [lim_bind (g := fun S _ => finish X.P p n0 rs S) ((callOp_mono (recFn_cmono X) _ _ _ _ _).bind (g := fun c _ => memC S (some c)) fun _ => Mono.const _) (fun _ => Mono.const _),
      lim_bind (g := fun c _ => memC S (some c)) (callOp_mono (recFn_cmono X) _ _ _ _ _) (fun _ => Mono.const _), callOpC_lim (recFn_cmono X)]
    simp only [lim_const]
    rfl
theorem call_runD {fn : Func} {c : Code} {args : List AV} {cs : List Cont} {n : Nat} {rs : List ResultVar} {p : FPol} (hov : X.ov = none) (hor : X.orc f = none) (hf : X.P.funcs[f]? = some fn) (hb : fn.body = some c) (hdf : defC c = true) (hn : fn.ntmps = n) (hrs : fn.results.toList = rs)
    (hp : X.fp f = p) (hok : callOk n p args cs = true) : callT X f args cs = denKD X f c (entry n X.gl args cs p.sites) [] (finKD X p cs.length rs) := by
  subst hp
  subst hn
  subst hrs
  unfold callT
  rw [← lim_shift (callN_cmono X f args cs)]
  have e1 : (fun k => callN X (k + 1) f args cs) = fun k => (denD X f (callN X k) k c (entry fn.ntmps X.gl args cs (X.fp f).sites) []).bind fun q => finD X (X.fp f) cs.length fn.results.toList (recFn X k (callN X k)) (some q) := by
    funext k
    rw [callN, hov, hor, hf]
    simp only [hb, hdf, bodyRun, runFnD]
    rw [if_pos (by simpa only [callOk] using hok), finD_eq]
  rw [e1, lim_bind (g := fun q k => finD X (X.fp f) cs.length fn.results.toList (recFn X k (callN X k)) (some q)) (dmD c _ _) (fun q => finDs_mono (recFn_cmono X) _ _ _ q)]
  simp only [denKD]
  congr 1
  funext q
  obtain ⟨e, S1, ds⟩ := q
  match ds with
  | [] =>
    simp only [finD, finKD, lim_const]
    cases e <;> rfl
  | [d] => exact finD1_lim _ _ _ _ _
  | _ :: _ :: _ => exact lim_const _
theorem rec_run {fn : Func} {c : Code} {args ys : List AV} {rv : AV} {cs : List Cont} {n : Nat} {rs : List ResultVar} {p : FPol} (hf : X.P.funcs[f]? = some fn) (hb : fn.body = some c) (hn : fn.ntmps = n) (hrs : fn.results.toList = rs)
    (hp : X.fp f = p) (hl : args.getLast? = some rv) (hy : args.dropLast = ys) (hok : callOk n p ys cs = true) : recT X f args cs = denRK X f rv c (entry n X.gl ys cs p.sites) (finRK X.P p cs.length rs) := by
  subst hp
  subst hn
  subst hrs
  subst hy
  unfold recT
  have e1 : (fun k => recFn X k (callN X k) f args cs) = fun k => (denR X f (callN X k) k rv c (entry fn.ntmps X.gl args.dropLast cs (X.fp f).sites)).bind fun q => finR X.P (X.fp f) cs.length fn.results.toList (some q) := by
    funext k
    simp only [recFn, hf, hb, runFnR, hl]
    rw [if_pos (by simpa only [callOk] using hok), finR_eq]
  rw [e1, lim_bind (denR_mono (callN_cmono X) f (m := fun k => k) (fun k => Nat.le_succ k) rv c _) (fun _ => Mono.const _)]
  simp only [denRK, lim_const]
  congr 1
  funext q
  obtain ⟨e, S1⟩ := q
  cases e <;> rfl
variable {k : Kt} {rv : AV}
theorem denRK_seq {a b : Code} : denRK X f rv (.seq a b) S k = denRK X f rv a S (seqK X f b k) := by
  have h : denRT X f rv (.seq a b) S = andThen (denRT X f rv a S) (denT X f b) :=
    andThen_lim (F := fun n => denR X f (callN X n) n rv a S) (K := fun S' n => den X f (callN X n) n b S') (denR_mono (callN_cmono X) f (m := fun k => k) (fun k => Nat.le_succ k) rv a S) (fun S' => dm b S')
  simp only [denRK, h, andThen_bind]
  congr 1
  funext q
  obtain ⟨e, S1⟩ := q
  cases e <;> rfl
theorem denRK_reg {id : Nat} {o : Oper} {r : List Oper} (h : isRecover o = true) : denRK X f rv (.region id ⟨o :: r⟩ false) S k = runK X (X.md f id) (o :: r) r (S.put o.dst true rv) (leaveK X f id k) := by
  have h1 : denRT X f rv (.region id ⟨o :: r⟩ false) S = mapN (St.leave X f id) (runOps X (callT X) (X.md f id) (o :: r) r (S.put o.dst true rv)) := by
    unfold denRT
    have : (fun k => denR X f (callN X k) k rv (.region id ⟨o :: r⟩ false) S) = fun k => (runOps X (callN X k) (X.md f id) (o :: r) r (S.put o.dst true rv)).bind fun q => mT (St.leave X f id) q := by
      funext k
      simp only [denR, h, if_true, mapN_eq]
    rw [this, lim_bind (runOps_mono (callN_cmono X) _ _ _) (fun _ => Mono.const _), runOps_lim, mapN_eq]
    simp only [lim_const]
  simp only [denRK, runK, h1]
  rcases runOps X (callT X) (X.md f id) (o :: r) r (S.put o.dst true rv) with _ | ⟨e, S1⟩
  · rfl
  · cases e <;> rfl
end
end Go.Am
end
section
namespace Go.Am
open Go
def Ctx.over (X : Ctx) (cl : CallFn) : Ctx := { X with ov := some cl }
section
variable {X : Ctx} {cl C : CallFn} {f : FuncId}
@[simp] theorem over_P : (X.over cl).P = X.P := rfl
@[simp] theorem over_gl : (X.over cl).gl = X.gl := rfl
@[simp] theorem over_keep : (X.over cl).keep = X.keep := rfl
@[simp] theorem over_gh : (X.over cl).gh = X.gh := rfl
@[simp] theorem over_md : (X.over cl).md = X.md := rfl
@[simp] theorem over_fp : (X.over cl).fp = X.fp := rfl
@[simp] theorem over_od : (X.over cl).od = X.od := rfl
@[simp] theorem over_fl : (X.over cl).fl = X.fl := rfl
@[simp] theorem callT_over : callT (X.over cl) = cl := by
  funext g a c
  unfold callT
  rw [← lim_shift (callN_cmono (X.over cl) g a c)]
  have : (fun n => callN (X.over cl) (n + 1) g a c) = fun _ => cl g a c := rfl
  rw [this, lim_const]
theorem runOps_over (md : Bool) (all : List Oper) : ∀ (ops : List Oper) (S : St), runOps (X.over cl) C md all ops S = runOps X C md all ops S
  | [], S => rfl
  | o :: r, S => by
    have ih : runOps (X.over cl) C md all r = runOps X C md all r := funext (runOps_over md all r)
    simp only [runOps, ih]
    rfl
theorem pOps_over (md : Bool) (all : List Oper) (js : List Nat) : ∀ (ops : List Oper) (i : Nat) (S : St) (acc : List Stp), pOps (X.over cl) md all js i ops S acc = pOps X md all js i ops S acc
  | [], i, S, acc => rfl
  | o :: r, i, S, acc => by
    have ih : pOps (X.over cl) md all js (i + 1) r = pOps X md all js (i + 1) r := funext fun S => funext (pOps_over md all js r (i + 1) S)
    simp only [pOps, ih]
    rfl
theorem panE_over (md : Bool) (nd : Nat × List (List Nat)) (all r : List Oper) (d : Option Nat) (acc : List Stp) (q : Pan) : panE (X.over cl) md nd all r d acc q = panE X md nd all r d acc q := by
  simp only [panE, pOps_over]
theorem drwO_over (md : Bool) (nd : Nat × List (List Nat)) (all r : List Oper) (S : St) (o : Oper) (acc : List Stp) (k : St → List Stp → Option (XE × St)) : ∀ p, drwO (X.over cl) C md nd all r S o acc k p = drwO X C md nd all r S o acc k p
  | some q => panE_over md nd all r o.dst acc q
  | none => rfl
theorem drwOps_over (md : Bool) (nd : Nat × List (List Nat)) (all : List Oper) : ∀ (ops : List Oper) (S : St) (acc : List Stp), drwOps (X.over cl) C md nd all ops S acc = drwOps X C md nd all ops S acc
  | [], S, acc => rfl
  | o :: r, S, acc => by
    have ih : drwOps (X.over cl) C md nd all r = drwOps X C md nd all r := funext fun S => funext (drwOps_over md nd all r S)
    simp only [drwOps, ih, drwO_over]
    rfl
theorem drwI_over (md : Bool) (nd : List (List Nat)) (LI : List Cl) (all : List Oper) : ∀ (ops : List Oper) (S : St) (acc : List Stp), drwI (X.over cl) C md nd LI all ops S acc = drwI X C md nd LI all ops S acc
  | [], S, acc => rfl
  | o :: r, S, acc => by
    have ih : drwI (X.over cl) C md nd LI all r = drwI X C md nd LI all r := funext fun S => funext (drwI_over md nd LI all r S)
    simp only [drwI, ih]
    rfl
theorem drwA_over (md : Bool) (nd : List (List Nat)) (all : List Oper) (S : St) (fl : List (Nat × Nat)) : drwA (X.over cl) C md nd all S fl = drwA X C md nd all S fl := by
  cases fl with
  | nil => exact drwOps_over md _ all all S []
  | cons q r =>
    simp only [drwA]
    cases ents S.mem (q :: r) with
    | none => rfl
    | some LI => exact drwI_over md nd LI all all S []
theorem den_over (n : Nat) : ∀ (c : Code) (S : St), den (X.over cl) f C n c S = den X f C n c S := by
  intro c
  induction c with
  | region id ops draw =>
    intro S
    cases draw with
    | false => simp only [den, runOps_over]; rfl
    | true => simp only [den, drwA_over]; rfl
  | seq a b iha ihb =>
    intro S
    have h : den (X.over cl) f C n b = den X f C n b := funext ihb
    simp only [den, iha, h]
  | cond c a b iha ihb => intro S; simp only [den, iha, ihb]
  | block id c ih => intro S; simp only [den, ih]
  | loop c ih =>
    intro S
    have h : den (X.over cl) f C n c = den X f C n c := funext ih
    simp only [den, h]
  | _ => intro S; rfl
theorem den_le {cl cl' : CallFn} (h : ∀ g a c r, cl g a c = some r → cl' g a c = some r) {n : Nat} {c : Code} {S : St} {r : XE × St} (hr : den X f cl n c S = some r) : den X f cl' n c S = some r := by
  have hC : CMono fun k => if k = 0 then cl else cl' := by
    intro g a c k r h0
    by_cases hk : k = 0
    · subst hk; exact h g a c r h0
    · simp only [hk, if_false] at h0; simpa using h0
  exact den_mono (X := X) hC f (m := fun _ => n) (fun _ => Nat.le_refl _) c S 0 r hr
theorem den_T : ∀ (c : Code) (n : Nat) (S : St) (r : XE × St), den X f (callT X) n c S = some r → denT X f c S = some r := by
  intro c
  induction c with
  | region id ops draw =>
    intro n S r h
    cases draw with
    | false => rw [denT_region]; exact h
    | true => rw [denT_draw]; exact h
  | seq a b iha ihb =>
    intro n S r h
    rw [denT_seq]
    simp only [den] at h
    rcases andThen_some h with ⟨S1, h1, h2⟩ | ⟨h1, h2⟩
    · rw [iha n S _ h1]; exact ihb n S1 r h2
    · rw [iha n S _ h1]
      obtain ⟨e, S1⟩ := r
      cases e with
      | normal => exact absurd rfl h2
      | _ => rfl
  | cond c a b iha ihb =>
    intro n S r h
    rw [denT_cond]
    simp only [den] at h
    revert h
    generalize S.opd c = v
    intro h
    unfold condB at h ⊢
    split at h
    · split at h
      · rename_i ht; simp only [ht, if_true]; exact iha n S r h
      · rename_i ht; simp only [ht, if_false]; exact ihb n S r h
    · cases h
  | block id c ih =>
    intro n S r h
    rw [denT_block]
    simp only [den] at h
    rcases hd : den X f (callT X) n c S with _ | ⟨q⟩
    · rw [hd] at h; cases h
    · rw [hd] at h; rw [ih n S q hd]; exact h
  | loop c ih =>
    intro n S r h
    simp only [den] at h
    have key : ∀ (j : Nat) (S : St) (r : XE × St), iter (den X f (callT X) n c) j S = some r → denT X f (.loop c) S = some r := by
      intro j
      induction j with
      | zero => intro S r h; cases h
      | succ j ihj =>
        intro S r h
        rw [denT_loop]
        simp only [iter] at h
        rcases andThen_some h with ⟨S1, h1, h2⟩ | ⟨h1, h2⟩
        · rw [ih n S _ h1]; exact ihj S1 r h2
        · rw [ih n S _ h1]
          obtain ⟨e, S1⟩ := r
          cases e with
          | normal => exact absurd rfl h2
          | _ => rfl
    exact key n S r h
  | skip => intro n S r h; rw [denT_skip]; exact h
  | exit id => intro n S r h; rw [denT_exit]; exact h
  | ret => intro n S r h; rw [denT_ret]; exact h
  | _ => intro n S r h; cases h
theorem denT_over (h : ∀ g a c r, cl g a c = some r → callT X g a c = some r) {c : Code} {S : St} {r : XE × St} (hr : denT (X.over cl) f c S = some r) : denT X f c S = some r := by
  obtain ⟨n, hn⟩ := (lim_some (dm (X := X.over cl) c S)).1 hr
  rw [den_over] at hn
  refine den_T c n S r (den_le ?_ hn)
  intro g a c r h1
  cases n with
  | zero => cases h1
  | succ n => exact h g a c r h1
theorem denK_over (h : ∀ g a c r, cl g a c = some r → callT X g a c = some r) {c : Code} {S : St} {k : Kt} {r : Out × List (Nat × Cont)} (hr : denK (X.over cl) f c S k = some r) : denK X f c S k = some r := by
  simp only [denK] at hr ⊢
  cases hd : denT (X.over cl) f c S with
  | none => rw [hd] at hr; cases hr
  | some q => rw [hd] at hr; rw [denT_over h hd]; exact hr
theorem recur {T : Type} (fid : T → FuncId) (args : T → List AV) (cs : T → List Cont) (ans : Nat → T → Ans) (h0 : ∀ t, ans 0 t = none)
    (hinj : ∀ t t', fid t = fid t' → args t = args t' → cs t = cs t' → ∀ f, ans f t = ans f t')
    (hstep : ∀ (f : Nat) (cl : CallFn), (∀ g a c r, cl g a c = some r → callT X g a c = some r) → (∀ t, cl (fid t) (args t) (cs t) = ans f t) → (∀ g, (∀ t, g ≠ fid t) → ∀ a c, cl g a c = callT X g a c) →
      ∀ t r, ans (f + 1) t = some r → callT X (fid t) (args t) (cs t) = some r) : ∀ f t r, ans f t = some r → callT X (fid t) (args t) (cs t) = some r
  | 0, t, r, h => by rw [h0] at h; cases h
  | f + 1, t, r, h => by
    have ih := recur fid args cs ans h0 hinj hstep f
    classical
    refine hstep f (fun g a c => if ∀ t, g = fid t → a = args t → c = cs t → ans f t ≠ none then callT X g a c else none) ?_ ?_ ?_ t r h
    · intro g a c r h
      split at h
      · exact h
      · cases h
    · intro t
      cases ha : ans f t with
      | none =>
        show (if _ then _ else _) = _
        rw [if_neg]
        intro h
        exact h t rfl rfl rfl ha
      | some r =>
        show (if _ then _ else _) = _
        rw [if_pos]
        · exact ih t r ha
        · intro t' h1 h2 h3 h4
          rw [← hinj t t' h1 h2 h3 f, ha] at h4
          cases h4
    · intro g hg a c
      show (if _ then _ else _) = _
      rw [if_pos]
      intro t h1
      exact absurd h1 (hg t)
end
inductive PR (ε σ α : Type) where
  | ok (a : α) (s : σ)
  | bad (e : ε) (s : σ)
  | out
section
variable {ε σ α β γ : Type}
def PR.el (r : PR ε σ α) (f : α → σ → Option β) (g : ε → σ → Option β) : Option β :=
  match r with
  | .ok a s => f a s
  | .bad e s => g e s
  | .out => none
@[simp] theorem el_ok {a : α} {s : σ} {f : α → σ → Option β} {g : ε → σ → Option β} : (PR.ok a s).el f g = f a s := rfl
@[simp] theorem el_bad {e : ε} {s : σ} {f : α → σ → Option β} {g : ε → σ → Option β} : (PR.bad e s).el f g = g e s := rfl
@[simp] theorem el_out {f : α → σ → Option β} {g : ε → σ → Option β} : (PR.out : PR ε σ α).el f g = none := rfl
@[simp] theorem el_ite {c : Prop} [Decidable c] {a b : PR ε σ α} {f : α → σ → Option β} {g : ε → σ → Option β} : (if c then a else b).el f g = if c then a.el f g else b.el f g := by split <;> rfl
def PR.bind (r : PR ε σ α) (k : α → σ → PR ε σ γ) : PR ε σ γ :=
  match r with
  | .ok a s => k a s
  | .bad e s => .bad e s
  | .out => .out
@[simp] theorem bind_ok {a : α} {s : σ} {k : α → σ → PR ε σ γ} : (PR.ok a s).bind k = k a s := rfl
@[simp] theorem bind_bad {e : ε} {s : σ} {k : α → σ → PR ε σ γ} : (PR.bad e s : PR ε σ α).bind k = .bad e s := rfl
@[simp] theorem bind_out {k : α → σ → PR ε σ γ} : (PR.out : PR ε σ α).bind k = .out := rfl
@[simp] theorem el_bind {r : PR ε σ α} {k : α → σ → PR ε σ γ} {f : γ → σ → Option β} {g : ε → σ → Option β} : (r.bind k).el f g = r.el (fun a s => (k a s).el f g) g := by cases r <;> rfl
@[simp] theorem el_el {r : PR ε σ α} {f : α → σ → Option β} {g : ε → σ → Option β} : r.el (fun a s => f a s) (fun e s => g e s) = r.el f g := rfl
theorem el_frz {n0 : Nat} {b : Bool} {r : PR ε σ α} {f : α → σ → Ans} {g : ε → σ → Ans} : frzR n0 b (r.el f g) = r.el (fun a s => frzR n0 b (f a s)) (fun e s => frzR n0 b (g e s)) := by cases r <;> rfl
theorem el_back {m : Mem} {k0 : Nat} {ρ B : List Nat} {r : PR ε σ α} {f : α → σ → Ans} {g : ε → σ → Ans} : callBack m k0 ρ B (r.el f g) = r.el (fun a s => callBack m k0 ρ B (f a s)) (fun e s => callBack m k0 ρ B (g e s)) := by cases r <;> rfl
theorem el_callK {X : Ctx} {md : Bool} {S : St} {d : Option Nat} {all q : List Oper} {k : Kt} {r : PR ε σ α} {f : α → σ → Option CRes} {g : ε → σ → Option CRes} : callK X md S d all q k (r.el f g) = r.el (fun a s => callK X md S d all q k (f a s)) (fun e s => callK X md S d all q k (g e s)) := by cases r <;> rfl
theorem el_dcallK {X : Ctx} {md : Bool} {nd : Nat × List (List Nat)} {S : St} {d : Option Nat} {all q : List Oper} {acc : List Stp} {k : Kt} {r : PR ε σ α} {f : α → σ → Option CRes} {g : ε → σ → Option CRes} : dcallK X md nd S d all q acc k (r.el f g) = r.el (fun a s => dcallK X md nd S d all q acc k (f a s)) (fun e s => dcallK X md nd S d all q acc k (g e s)) := by cases r <;> rfl
def Le (a b : Option β) : Prop := ∀ r, a = some r → b = some r
theorem Le.refl (a : Option β) : Le a a := fun _ h => h
theorem Le.of_eq {a b : Option β} (h : a = b) : Le a b := by subst h; exact Le.refl _
theorem Le.trans {a b c : Option β} (h : Le a b) (k : Le b c) : Le a c := fun r hr => k r (h r hr)
theorem Le.none {b : Option β} : Le none b := fun _ h => by cases h
theorem Le.el {r : PR ε σ α} {f f' : α → σ → Option β} {g g' : ε → σ → Option β} (hf : ∀ a s, Le (f a s) (f' a s)) (hg : ∀ e s, Le (g e s) (g' e s)) : Le (r.el f g) (r.el f' g') := by
  cases r with
  | ok a s => exact hf a s
  | bad e s => exact hg e s
  | out => exact Le.none
theorem Le.ite {c : Prop} [Decidable c] {a b a' b' : Option β} (h : c → Le a a') (h' : ¬ c → Le b b') : Le (if c then a else b) (if c then a' else b') := by
  split
  · exact h ‹_›
  · exact h' ‹_›
end
end Go.Am
end
section
namespace Go.Am
open Go
section
variable {X : Ctx} {cl : CallFn} {md : Bool} {all : List Oper} {S : St}
@[simp] theorem dgstep_none {d : Option Tmp} {op : Op} {ty : TypeId} {pos : String} {af : Array Edge} : dgstep X cl md all S ⟨d, op, ty, pos, af, none⟩ = dstep X cl S ⟨d, op, ty, pos, af, none⟩ (stepv X.P S ⟨d, op, ty, pos, af, none⟩) := rfl
@[simp] theorem pOps_nil {js : List Nat} {i : Nat} {acc : List Stp} : pOps X md all js i [] S acc = some (revA acc []) := by rw [revA_eq, List.append_nil]; rfl
theorem pOps_cons {js : List Nat} {i : Nat} {o : Oper} {r : List Oper} {acc : List Stp} : pOps X md all js i (o :: r) S acc = if js.contains i = true then (match dgstep X (fun _ _ _ => none) md all S o with
      | some (S1, p) => pOps X md all js (i + 1) r S1 (p :: acc)
      | none => none) else pOps X md all js (i + 1) r (S.put o.dst false .junk) (⟨[], [], false, .junk⟩ :: acc) := by
  simp only [pOps]
  cases js.contains i <;> rfl
end
attribute [simp] pOps_cons dstep.eq_1 dstep.eq_2 dstep.eq_3 panE.eq_1 pEnd.eq_1 pEnd.eq_2 verSum.eq_1 verSum.eq_2 verSums.eq_1 verSums.eq_2 killM.eq_1 killM.eq_2 St.kill.eq_1 farE.eq_1 farE.eq_2 farJ.eq_1 farJ.eq_2
attribute [simp] el_frz el_back el_callK el_dcallK
section
variable {ε σ α : Type} {X : Ctx} {md : Bool} {nd : Nat × List (List Nat)} {S : St} {d : Option Nat} {all q : List Oper} {acc : List Stp} {k : Kt} {r : PR ε σ α} {f : α → σ → Option CRes} {g : ε → σ → Option CRes}
@[simp] theorem el_dcallG : dcallG X md nd S d all q acc k (r.el f g) = r.el (fun a s => dcallG X md nd S d all q acc k (f a s)) (fun e s => dcallG X md nd S d all q acc k (g e s)) := by cases r <;> rfl
@[simp] theorem el_memC : memC S (r.el f g) = r.el (fun a s => memC S (f a s)) (fun e s => memC S (g e s)) := by cases r <;> rfl
@[simp] theorem el_finM {p : FPol} {n0 : Nat} {rs : List ResultVar} {f : α → σ → Option St} {g : ε → σ → Option St} : finM X p n0 rs (r.el f g) = r.el (fun a s => finM X p n0 rs (f a s)) (fun e s => finM X p n0 rs (g e s)) := by cases r <;> rfl
end
attribute [simp] denKD_seq denKD_cond denKD_ret denKD_skip denKD_loop denKD_block denKD_draw denKD_reg runKD_nil runKD_cons
attribute [simp] seqKD.eq_1 leaveKD.eq_1 nextKD.eq_1 oneKD.eq_1 oneKD.eq_2 finKD.eq_1 finKD.eq_2 finM.eq_1 finM.eq_2 memC.eq_1 recA.eq_1 recA.eq_2 recA.eq_3 finD1.eq_1 denRK_seq finRK.eq_1 finRK.eq_2
section
variable {X : Ctx} {f : FuncId} {S : St} {ds : List DF} {kd : KtD} {b : Code}
@[simp] theorem seqKD_r : seqKD X f b kd .ret S ds = kd .ret S ds := rfl
@[simp] theorem seqKD_p {t : TypeId} {x : D} : seqKD X f b kd (.panic t x) S ds = kd (.panic t x) S ds := rfl
@[simp] theorem seqKD_x {i : Nat} : seqKD X f b kd (.exit i) S ds = kd (.exit i) S ds := rfl
@[simp] theorem leaveKD_p {id : Nat} {t : TypeId} {x : D} : leaveKD X f id kd (.panic t x) S ds = kd (.panic t x) S ds := rfl
@[simp] theorem nextKD_p {md : Bool} {all r : List Oper} {t : TypeId} {x : D} : nextKD X md all r ds kd (.panic t x) S = kd (.panic t x) S ds := rfl
end
end Go.Am
end
section
namespace Go.Am
open Go
open Go.Proofs
set_option maxRecDepth 10000
@[simp] def keep3 : Nat → List Nat
  | 0 => [0]
  | 1 => [0, 20]
  | 2 => [2]
  | 3 => [0]
  | 4 => [3, 4]
  | 5 => [3, 33]
  | 6 => [2]
  | 7 => [3, 6, 7]
  | 8 => [3, 6, 7, 8, 9]
  | 9 => [3, 6, 7, 9, 11, 12]
  | 10 => [3, 78]
  | 11 => [2]
  | 12 => [3, 13]
  | 13 => [3, 13, 83]
  | 14 => [3, 13]
  | 15 => [3, 13, 14]
  | 16 => [3, 13, 14, 15, 16]
  | 17 => [3, 13, 15, 16, 17, 18]
  | 18 => [3, 13, 128]
  | 19 => [2]
  | 20 => [2]
  | _ => []
@[simp] def md3 : Nat → Bool
  | 18 => true
  | _ => false
@[simp] def od3 : Nat → List (List Nat)
  | _ => []
@[simp] def fp3 : FPol := { inpl := [], exp := false, sites := [250, 500, 800, 850, 950], mut_ := [], split := false }
@[simp] def keep4 : Nat → List Nat
  | 0 => []
  | 1 => [1, 2]
  | 2 => [0]
  | _ => []
@[simp] def md4 : Nat → Bool
  | 2 => true
  | _ => false
@[simp] def od4 : Nat → List (List Nat)
  | _ => []
@[simp] def fp4 : FPol := { inpl := [], exp := false, sites := [150], mut_ := [], split := false }
@[simp] def keep5 : Nat → List Nat
  | 0 => [0, 2]
  | 1 => [0, 2, 5]
  | 2 => [2, 5, 11, 12, 13]
  | 3 => [2, 5, 11, 12, 13, 14]
  | 4 => [2, 5, 6, 7, 11, 12, 13]
  | 5 => [2, 5, 6, 7, 11, 12, 13, 24]
  | 6 => [2, 3, 4]
  | 7 => [2, 5, 6, 8, 11, 12, 13]
  | 8 => [2, 5, 6, 8, 11, 12, 13, 39]
  | 9 => [2, 5, 6, 9, 11, 12, 13]
  | 10 => [2, 5, 6, 9, 11, 12, 13, 43]
  | 11 => [2, 3, 4]
  | 12 => [2, 5, 11, 12, 13]
  | 13 => [2, 5, 57]
  | 14 => [2, 3, 4]
  | 15 => [2, 3, 4]
  | _ => []
@[simp] def md5 : Nat → Bool
  | 8 => true
  | _ => false
@[simp] def od5 : Nat → List (List Nat)
  | _ => []
@[simp] def gh5 : Nat → List Gh
  | 1 => [.adopt 350 1 351 12]
  | _ => []
@[simp] def fp5 : FPol := { inpl := [], exp := false, sites := [200, 350, 351], mut_ := [], split := false }
@[simp] def keep6 : Nat → List Nat
  | 0 => [1]
  | 1 => [1, 12]
  | 2 => [2, 3]
  | 3 => [1, 4]
  | 4 => [4, 19, 20, 21]
  | 5 => [4, 19, 20, 21, 22]
  | 6 => [4, 6, 19, 20, 21]
  | 7 => [4, 6, 7, 19, 20, 21]
  | 8 => [4, 6, 7, 19, 20, 21]
  | 9 => [4, 19, 20, 21, 53, 54, 55]
  | 10 => [4, 19, 20, 21, 53, 54, 55, 56]
  | 11 => [4, 9, 19, 20, 21, 53, 54, 55]
  | 12 => [4, 19, 20, 21, 53, 54, 55]
  | 13 => [4, 19, 20, 21, 53, 54, 55]
  | 14 => [4, 19, 20, 21]
  | 15 => [4, 19, 20, 21]
  | 16 => [2, 3]
  | _ => []
@[simp] def md6 : Nat → Bool
  | _ => false
@[simp] def od6 : Nat → List (List Nat)
  | _ => []
@[simp] def fp6 : FPol := { inpl := [], exp := false, sites := [150, 400, 450], mut_ := [], split := false }
@[simp] def keep7 : Nat → List Nat
  | 0 => [1]
  | 1 => [2]
  | _ => []
@[simp] def md7 : Nat → Bool
  | 1 => true
  | _ => false
@[simp] def od7 : Nat → List (List Nat)
  | _ => []
@[simp] def fp7 : FPol := { inpl := [], exp := false, sites := [150], mut_ := [], split := false }
@[simp] def keep8 : Nat → List Nat
  | 0 => [1, 2, 3, 4, 5, 10]
  | 1 => [1, 2, 3, 4, 5, 10, 12, 13]
  | 2 => [1, 2, 3, 4, 5, 10, 12, 39]
  | 3 => [10, 11]
  | 4 => [1, 2, 3, 4, 5, 10, 12, 15]
  | 5 => [1, 2, 3, 4, 5, 10, 12, 48]
  | 6 => [10, 11]
  | 7 => [10, 11]
  | _ => []
@[simp] def md8 : Nat → Bool
  | 2 => true
  | _ => false
@[simp] def od8 : Nat → List (List Nat)
  | _ => []
@[simp] def fp8 : FPol := { inpl := [], exp := false, sites := [350, 600, 700, 800], mut_ := [], split := false }
@[simp] def keep9 : Nat → List Nat
  | 0 => [0, 1, 4]
  | 1 => [1, 4, 6, 7]
  | 2 => [1, 4, 6, 7, 15]
  | 3 => [4, 5]
  | 4 => [4, 6, 7, 8]
  | 5 => [4, 6, 7, 8, 24]
  | 6 => [4, 5]
  | 7 => [4, 5]
  | _ => []
@[simp] def md9 : Nat → Bool
  | _ => false
@[simp] def od9 : Nat → List (List Nat)
  | _ => []
@[simp] def fp9 : FPol := { inpl := [], exp := false, sites := [300, 400, 500], mut_ := [], split := false }
@[simp] def keep10 : Nat → List Nat
  | 0 => [1]
  | 1 => [1, 4]
  | 2 => [1, 20]
  | 3 => [2]
  | 4 => [1, 56]
  | 5 => [2]
  | 6 => [1, 85]
  | 7 => [2]
  | 8 => [2]
  | _ => []
@[simp] def md10 : Nat → Bool
  | 4 => true
  | 6 => true
  | 8 => true
  | _ => false
@[simp] def od10 : Nat → List (List Nat)
  | 4 => [[], [], [], [], [], [], [], [], [], [], [], [], [], [], [], [19, 20], [19, 20], [19, 20], [19, 20], [15, 16, 17, 18], [15, 16, 17, 18], [], [], [], [26, 27], [26, 27], [24, 25], [24, 25], [], [], [], [], [], [], [], []]
  | _ => []
@[simp] def fp10 : FPol := { inpl := [], exp := false, sites := [150, 250], mut_ := [], split := false }
@[simp] def keep11 : Nat → List Nat
  | 0 => [1]
  | 1 => [1, 3]
  | 2 => [2]
  | _ => []
@[simp] def md11 : Nat → Bool
  | 1 => true
  | 2 => true
  | _ => false
@[simp] def od11 : Nat → List (List Nat)
  | _ => []
@[simp] def fp11 : FPol := { inpl := [], exp := false, sites := [150], mut_ := [], split := false }
@[simp] def keep12 : Nat → List Nat
  | 0 => [0, 1]
  | 1 => [4]
  | _ => []
@[simp] def md12 : Nat → Bool
  | _ => false
@[simp] def od12 : Nat → List (List Nat)
  | _ => []
@[simp] def fp12 : FPol := { inpl := [], exp := false, sites := [], mut_ := [], split := false }
@[simp] def keep13 : Nat → List Nat
  | 0 => [0, 1]
  | 1 => [0, 1, 5]
  | 2 => [0, 1, 5, 6]
  | 3 => [0, 1, 5, 6, 14]
  | 4 => [0, 1, 5, 6, 14, 15, 16]
  | 5 => [0, 1, 5, 6, 7, 8, 14]
  | 6 => [0, 1, 5, 6, 7, 14, 21]
  | 7 => [0, 1, 5, 6, 7, 14, 23]
  | 8 => [0, 1, 5, 6, 14]
  | 9 => [0, 1, 5, 6, 14]
  | 10 => [0, 1, 5, 6, 7, 14, 33]
  | 11 => [0, 1, 5, 6, 14]
  | 12 => [0, 5, 6, 36]
  | 13 => [0, 5]
  | 14 => [0, 5, 9]
  | 15 => [0, 9, 47, 48, 49]
  | 16 => [0, 9, 47, 48, 49, 50]
  | 17 => [0, 9, 10, 11, 47, 48, 49]
  | 18 => [0, 9, 47, 48, 49]
  | 19 => [0, 9, 47, 48, 49]
  | 20 => [4]
  | _ => []
@[simp] def md13 : Nat → Bool
  | _ => false
@[simp] def od13 : Nat → List (List Nat)
  | _ => []
@[simp] def fp13 : FPol := { inpl := [], exp := false, sites := [650, 700, 2400], mut_ := [], split := false }
@[simp] def keep14 : Nat → List Nat
  | 0 => [0]
  | 1 => [2]
  | _ => []
@[simp] def md14 : Nat → Bool
  | _ => false
@[simp] def od14 : Nat → List (List Nat)
  | _ => []
@[simp] def fp14 : FPol := { inpl := [], exp := false, sites := [], mut_ := [], split := false }
@[simp] def keep15 : Nat → List Nat
  | 0 => [0, 1]
  | 1 => [0, 1, 5, 6]
  | 2 => [0, 1, 5, 14]
  | 3 => [4]
  | 4 => [0, 1, 5, 17]
  | 5 => [0, 5, 31]
  | 6 => [4]
  | 7 => [0, 5, 36]
  | 8 => [4]
  | 9 => []
  | 10 => [4]
  | 11 => [0, 5, 43]
  | 12 => [0, 7]
  | 13 => [0, 7, 55]
  | 14 => [4]
  | 15 => [0, 7, 59]
  | 16 => [4]
  | 17 => []
  | 18 => [4]
  | 19 => [4]
  | _ => []
@[simp] def md15 : Nat → Bool
  | _ => false
@[simp] def od15 : Nat → List (List Nat)
  | 17 => [[1, 2, 3, 4, 5, 6, 7], [0, 5, 6], [0, 5, 6], [0, 5, 6], [0, 5, 6], [0, 1, 2, 3, 4], [0, 1, 2, 3, 4], [0], [], [], []]
  | _ => []
@[simp] def fp15 : FPol := { inpl := [1], exp := false, sites := [450], mut_ := [], split := false }
@[simp] def keep16 : Nat → List Nat
  | 0 => [0]
  | 1 => [2]
  | _ => []
@[simp] def md16 : Nat → Bool
  | _ => false
@[simp] def od16 : Nat → List (List Nat)
  | _ => []
@[simp] def fp16 : FPol := { inpl := [], exp := false, sites := [], mut_ := [], split := false }
@[simp] def keep17 : Nat → List Nat
  | 0 => [0, 1]
  | 1 => [4]
  | _ => []
@[simp] def md17 : Nat → Bool
  | _ => false
@[simp] def od17 : Nat → List (List Nat)
  | _ => []
@[simp] def fp17 : FPol := { inpl := [], exp := false, sites := [], mut_ := [], split := false }
@[simp] def keep18 : Nat → List Nat
  | 0 => [0]
  | 1 => [2]
  | _ => []
@[simp] def md18 : Nat → Bool
  | _ => false
@[simp] def od18 : Nat → List (List Nat)
  | _ => []
@[simp] def fp18 : FPol := { inpl := [], exp := false, sites := [], mut_ := [], split := false }
@[simp] def keep19 : Nat → List Nat
  | 0 => [0, 1]
  | 1 => [4]
  | _ => []
@[simp] def md19 : Nat → Bool
  | _ => false
@[simp] def od19 : Nat → List (List Nat)
  | _ => []
@[simp] def fp19 : FPol := { inpl := [], exp := false, sites := [], mut_ := [], split := false }
@[simp] def keep20 : Nat → List Nat
  | 0 => [1]
  | 1 => [2]
  | _ => []
@[simp] def md20 : Nat → Bool
  | _ => false
@[simp] def od20 : Nat → List (List Nat)
  | _ => []
@[simp] def fp20 : FPol := { inpl := [], exp := false, sites := [150], mut_ := [], split := false }
@[simp] def keep21 : Nat → List Nat
  | 0 => [1]
  | 1 => [1, 4]
  | 2 => [1, 4, 6]
  | 3 => [2]
  | _ => []
@[simp] def md21 : Nat → Bool
  | _ => false
@[simp] def od21 : Nat → List (List Nat)
  | _ => []
@[simp] def fp21 : FPol := { inpl := [], exp := false, sites := [150, 250, 350], mut_ := [], split := false }
@[simp] def keep22 : Nat → List Nat
  | 0 => [0, 1, 4]
  | 1 => [0, 1, 4, 16]
  | 2 => [4, 5]
  | 3 => [4, 5]
  | _ => []
@[simp] def md22 : Nat → Bool
  | 1 => true
  | _ => false
@[simp] def od22 : Nat → List (List Nat)
  | _ => []
@[simp] def fp22 : FPol := { inpl := [], exp := false, sites := [300], mut_ := [], split := false }
@[simp] def keep23 : Nat → List Nat
  | 0 => [1]
  | 1 => [2]
  | _ => []
@[simp] def md23 : Nat → Bool
  | 1 => true
  | _ => false
@[simp] def od23 : Nat → List (List Nat)
  | _ => []
@[simp] def fp23 : FPol := { inpl := [], exp := false, sites := [150], mut_ := [], split := false }
@[simp] def keep24 : Nat → List Nat
  | 0 => [0, 1, 4]
  | 1 => [4, 6]
  | 2 => [4, 6, 12]
  | 3 => [4, 5]
  | 4 => [4, 5]
  | _ => []
@[simp] def md24 : Nat → Bool
  | _ => false
@[simp] def od24 : Nat → List (List Nat)
  | _ => []
@[simp] def fp24 : FPol := { inpl := [], exp := false, sites := [300, 400], mut_ := [], split := false }
@[simp] def keep25 : Nat → List Nat
  | 0 => [0, 2]
  | 1 => [2, 4]
  | 2 => [2, 4, 9]
  | 3 => [2, 3]
  | 4 => [2, 3]
  | _ => []
@[simp] def md25 : Nat → Bool
  | _ => false
@[simp] def od25 : Nat → List (List Nat)
  | _ => []
@[simp] def fp25 : FPol := { inpl := [], exp := false, sites := [200, 300], mut_ := [], split := false }
@[simp] def keep26 : Nat → List Nat
  | 0 => [0, 1, 4]
  | 1 => [4, 6]
  | 2 => [4, 6, 12]
  | 3 => [4, 5]
  | 4 => [4, 5]
  | _ => []
@[simp] def md26 : Nat → Bool
  | _ => false
@[simp] def od26 : Nat → List (List Nat)
  | _ => []
@[simp] def fp26 : FPol := { inpl := [], exp := false, sites := [300, 400], mut_ := [], split := false }
@[simp] def keep27 : Nat → List Nat
  | 0 => [1]
  | 1 => [2]
  | _ => []
@[simp] def md27 : Nat → Bool
  | 1 => true
  | _ => false
@[simp] def od27 : Nat → List (List Nat)
  | _ => []
@[simp] def fp27 : FPol := { inpl := [], exp := false, sites := [150], mut_ := [], split := false }
@[simp] def keep28 : Nat → List Nat
  | 0 => [2, 3]
  | 1 => [2, 3, 18]
  | 2 => [4]
  | 3 => [2, 3, 21]
  | 4 => [4]
  | 5 => [4]
  | _ => []
@[simp] def md28 : Nat → Bool
  | 1 => true
  | _ => false
@[simp] def od28 : Nat → List (List Nat)
  | 4 => [[2, 3, 5, 6, 7, 8, 9], [2, 3, 5, 6, 7, 8, 9], [0, 1, 5, 6, 7, 8, 9], [0, 1, 5, 6, 7, 8, 9], [5, 6, 7, 8, 9], [0, 1, 2, 3, 4, 7, 8], [0, 1, 2, 3, 4, 7, 8], [0, 1, 2, 3, 4, 5, 6], [0, 1, 2, 3, 4, 5, 6], [0, 1, 2, 3, 4], [], []]
  | 5 => [[3, 4, 6, 7, 8, 9, 10], [3, 4, 6, 7, 8, 9, 10], [3, 4, 6, 7, 8, 9, 10], [0, 1, 2, 6, 7, 8, 9, 10], [0, 1, 2, 6, 7, 8, 9, 10], [6, 7, 8, 9, 10], [0, 1, 2, 3, 4, 5, 8, 9], [0, 1, 2, 3, 4, 5, 8, 9], [0, 1, 2, 3, 4, 5, 6, 7], [0, 1, 2, 3, 4, 5, 6, 7], [0, 1, 2, 3, 4, 5], [], []]
  | _ => []
@[simp] def fp28 : FPol := { inpl := [], exp := false, sites := [200, 250], mut_ := [], split := false }
@[simp] def keep29 : Nat → List Nat
  | 0 => [1, 2]
  | 1 => [1, 2, 3]
  | 2 => [2, 3, 8]
  | 3 => [2, 3]
  | 4 => [2]
  | _ => []
@[simp] def md29 : Nat → Bool
  | _ => false
@[simp] def od29 : Nat → List (List Nat)
  | _ => []
@[simp] def fp29 : FPol := { inpl := [], exp := false, sites := [150, 200, 250], mut_ := [], split := false }
@[simp] def keep30 : Nat → List Nat
  | 0 => [1]
  | 1 => [1, 3]
  | 2 => [3, 12, 13, 14]
  | 3 => [3, 12, 13, 14, 15]
  | 4 => [3, 4, 5, 12, 13, 14]
  | 5 => [4, 5, 6, 12, 13, 14]
  | 6 => [5, 12, 13, 14, 36]
  | 7 => [2]
  | 8 => [3, 12, 13, 14]
  | 9 => [3, 12, 13, 14]
  | 10 => [2]
  | _ => []
@[simp] def md30 : Nat → Bool
  | _ => false
@[simp] def od30 : Nat → List (List Nat)
  | _ => []
@[simp] def fp30 : FPol := { inpl := [], exp := false, sites := [150], mut_ := [], split := false }
@[simp] def keep31 : Nat → List Nat
  | 0 => [1]
  | 1 => [1, 24]
  | 2 => [2]
  | 3 => [2]
  | _ => []
@[simp] def md31 : Nat → Bool
  | 1 => true
  | _ => false
@[simp] def od31 : Nat → List (List Nat)
  | _ => []
@[simp] def fp31 : FPol := { inpl := [], exp := false, sites := [150], mut_ := [], split := false }
@[simp] def keep32 : Nat → List Nat
  | 0 => [1]
  | 1 => [1, 3]
  | 2 => [1, 3, 12]
  | 3 => [2]
  | 4 => [1, 4, 5, 6]
  | 5 => [1, 4, 5, 6, 49]
  | 6 => [1, 4, 5, 6, 49, 50]
  | 7 => [2]
  | 8 => [1, 4, 5, 6, 49, 58]
  | 9 => [2]
  | 10 => [1, 4, 5, 6, 49, 66]
  | 11 => [2]
  | 12 => [1, 4, 5, 49, 92]
  | 13 => [2]
  | 14 => [1, 4, 5, 105]
  | 15 => [2]
  | 16 => [2]
  | _ => []
@[simp] def md32 : Nat → Bool
  | 3 => true
  | 15 => true
  | _ => false
@[simp] def od32 : Nat → List (List Nat)
  | 4 => [[4, 5, 6, 7, 8, 9, 10, 11], [4, 5, 6, 7, 8, 9, 10, 11], [4, 5, 6, 7, 8, 9, 10, 11], [4, 5, 6, 7, 8, 9, 10, 11], [0, 1, 2, 3, 8, 9, 10, 11, 12], [0, 1, 2, 3, 8, 9, 10, 11, 12], [0, 1, 2, 3, 8, 9, 10, 11, 12], [0, 1, 2, 3, 8, 9, 10, 11, 12], [0, 1, 2, 3, 4, 5, 6, 7, 11, 12, 13], [0, 1, 2, 3, 4, 5, 6, 7, 11, 12, 13], [0, 1, 2, 3, 4, 5, 6, 7, 11, 12, 13], [0, 1, 2, 3, 4, 5, 6, 7, 8, 9, 10], [4, 5, 6, 7, 8, 9, 10], [8, 9, 10], []]
  | _ => []
@[simp] def fp32 : FPol := { inpl := [], exp := false, sites := [150, 250, 300], mut_ := [], split := false }
@[simp] def keep33 : Nat → List Nat
  | 0 => [1]
  | 1 => [1, 10]
  | 2 => [2]
  | 3 => [1, 13]
  | 4 => [2]
  | 5 => [2]
  | _ => []
@[simp] def md33 : Nat → Bool
  | _ => false
@[simp] def od33 : Nat → List (List Nat)
  | _ => []
@[simp] def fp33 : FPol := { inpl := [], exp := false, sites := [150], mut_ := [], split := false }
@[simp] def keep34 : Nat → List Nat
  | 0 => [1]
  | 1 => [2]
  | _ => []
@[simp] def md34 : Nat → Bool
  | _ => false
@[simp] def od34 : Nat → List (List Nat)
  | _ => []
@[simp] def fp34 : FPol := { inpl := [], exp := false, sites := [150], mut_ := [], split := false }
@[simp] def keep35 : Nat → List Nat
  | 0 => [1]
  | 1 => [2]
  | _ => []
@[simp] def md35 : Nat → Bool
  | _ => false
@[simp] def od35 : Nat → List (List Nat)
  | _ => []
@[simp] def fp35 : FPol := { inpl := [], exp := false, sites := [150], mut_ := [], split := false }
@[simp] def keep36 : Nat → List Nat
  | 0 => [0, 1, 2, 3]
  | 1 => [0, 1, 2, 3, 13]
  | 2 => [8]
  | 3 => [0, 1, 2, 3, 15]
  | 4 => [8]
  | 5 => [0, 1, 2, 3, 20]
  | 6 => [0, 1, 2, 3]
  | 7 => [0, 1, 2, 3]
  | 8 => [0, 1, 2, 3, 9]
  | 9 => [0, 1, 2, 3, 9]
  | 10 => [0, 1, 2, 3, 9, 10]
  | 11 => [0, 1, 2, 3, 9, 10, 36]
  | 12 => [0, 1, 2, 3, 9, 10, 11]
  | 13 => [0, 1, 2, 3, 9, 10, 11, 41]
  | 14 => [0, 1, 2, 3, 9, 10, 11]
  | 15 => [0, 1, 2, 3, 9, 10]
  | 16 => [0, 1, 2, 3, 9, 10]
  | 17 => [9, 10]
  | 18 => [8]
  | _ => []
@[simp] def md36 : Nat → Bool
  | _ => false
@[simp] def od36 : Nat → List (List Nat)
  | _ => []
@[simp] def fp36 : FPol := { inpl := [], exp := false, sites := [1650], mut_ := [], split := false }
@[simp] def keep37 : Nat → List Nat
  | 0 => [0]
  | 1 => [0, 4]
  | 2 => [4, 9, 10, 11]
  | 3 => [4, 9, 10, 11, 12]
  | 4 => [4, 6, 9, 10, 11]
  | 5 => [4, 7, 8, 9, 10, 11]
  | 6 => [4, 7, 9, 10, 11, 21]
  | 7 => [2, 3]
  | 8 => [4, 9, 10, 11]
  | 9 => [4, 9, 10, 11]
  | 10 => [2, 3]
  | _ => []
@[simp] def md37 : Nat → Bool
  | _ => false
@[simp] def od37 : Nat → List (List Nat)
  | _ => []
@[simp] def fp37 : FPol := { inpl := [], exp := false, sites := [300], mut_ := [], split := false }
@[simp] def keep38 : Nat → List Nat
  | 0 => [0, 2]
  | 1 => [2]
  | _ => []
@[simp] def md38 : Nat → Bool
  | _ => false
@[simp] def od38 : Nat → List (List Nat)
  | 1 => [[3, 4, 5, 6, 7, 8, 9, 10, 11, 12, 13, 14, 16, 17, 18, 19, 20, 21, 22, 23, 24, 25, 26, 27, 28, 29, 30, 31, 32, 33, 34, 35, 36, 37, 38, 39], [3, 4, 5, 6, 7, 8, 9, 10, 11, 12, 13, 14, 16, 17, 18, 19, 20, 21, 22, 23, 24, 25, 26, 27, 28, 29, 30, 31, 32, 33, 34, 35, 36, 37, 38, 39], [3, 4, 5, 6, 7, 8, 9, 10, 11, 12, 13, 14, 16, 17, 18, 19, 20, 21, 22, 23, 24, 25, 26, 27, 28, 29, 30, 31, 32, 33, 34, 35, 36, 37, 38, 39], [0, 1, 2, 6, 7, 8, 9, 10, 11, 12, 13, 14, 16, 17, 18, 19, 20, 21, 22, 23, 24, 25, 26, 27, 28, 29, 30, 31, 32, 33, 34, 35, 36, 37, 38, 39], [0, 1, 2, 6, 7, 8, 9, 10, 11, 12, 13, 14, 16, 17, 18, 19, 20, 21, 22, 23, 24, 25, 26, 27, 28, 29, 30, 31, 32, 33, 34, 35, 36, 37, 38, 39], [0, 1, 2, 6, 7, 8, 9, 10, 11, 12, 13, 14, 16, 17, 18, 19, 20, 21, 22, 23, 24, 25, 26, 27, 28, 29, 30, 31, 32, 33, 34, 35, 36, 37, 38, 39], [0, 1, 2, 3, 4, 5, 9, 10, 11, 12, 13, 14, 16, 17, 18, 19, 20, 21, 22, 23, 24, 25, 26, 27, 28, 29, 30, 31, 32, 33, 34, 35, 36, 37, 38, 39], [0, 1, 2, 3, 4, 5, 9, 10, 11, 12, 13, 14, 16, 17, 18, 19, 20, 21, 22, 23, 24, 25, 26, 27, 28, 29, 30, 31, 32, 33, 34, 35, 36, 37, 38, 39], [0, 1, 2, 3, 4, 5, 9, 10, 11, 12, 13, 14, 16, 17, 18, 19, 20, 21, 22, 23, 24, 25, 26, 27, 28, 29, 30, 31, 32, 33, 34, 35, 36, 37, 38, 39], [0, 1, 2, 3, 4, 5, 6, 7, 8, 12, 13, 14, 16, 17, 18, 19, 20, 21, 22, 23, 24, 25, 26, 27, 28, 29, 30, 31, 32, 33, 34, 35, 36, 37, 38, 39], [0, 1, 2, 3, 4, 5, 6, 7, 8, 12, 13, 14, 16, 17, 18, 19, 20, 21, 22, 23, 24, 25, 26, 27, 28, 29, 30, 31, 32, 33, 34, 35, 36, 37, 38, 39], [0, 1, 2, 3, 4, 5, 6, 7, 8, 12, 13, 14, 16, 17, 18, 19, 20, 21, 22, 23, 24, 25, 26, 27, 28, 29, 30, 31, 32, 33, 34, 35, 36, 37, 38, 39], [0, 1, 2, 3, 4, 5, 6, 7, 8, 9, 10, 11, 16, 17, 18, 19, 20, 21, 22, 23, 24, 25, 26, 27, 28, 29, 30, 31, 32, 33, 34, 35, 36, 37, 38, 39], [0, 1, 2, 3, 4, 5, 6, 7, 8, 9, 10, 11, 16, 17, 18, 19, 20, 21, 22, 23, 24, 25, 26, 27, 28, 29, 30, 31, 32, 33, 34, 35, 36, 37, 38, 39], [0, 1, 2, 3, 4, 5, 6, 7, 8, 9, 10, 11, 16, 17, 18, 19, 20, 21, 22, 23, 24, 25, 26, 27, 28, 29, 30, 31, 32, 33, 34, 35, 36, 37, 38, 39], [16, 17, 18, 19, 20, 21, 22, 23, 24, 25, 26, 27, 28, 29, 30, 31, 32, 33, 34, 35, 36, 37, 38, 39], [0, 1, 2, 3, 4, 5, 6, 7, 8, 9, 10, 11, 12, 13, 14, 15, 20, 21, 22, 23, 24, 25, 26, 27, 28, 29, 30, 31, 33, 34, 35, 37, 38, 39], [0, 1, 2, 3, 4, 5, 6, 7, 8, 9, 10, 11, 12, 13, 14, 15, 20, 21, 22, 23, 24, 25, 26, 27, 28, 29, 30, 31, 33, 34, 35, 37, 38, 39], [0, 1, 2, 3, 4, 5, 6, 7, 8, 9, 10, 11, 12, 13, 14, 15, 20, 21, 22, 23, 24, 25, 26, 27, 28, 29, 30, 31, 33, 34, 35, 37, 38, 39], [0, 1, 2, 3, 4, 5, 6, 7, 8, 9, 10, 11, 12, 13, 14, 15, 20, 21, 22, 23, 24, 25, 26, 27, 28, 29, 30, 31, 33, 34, 35, 37, 38, 39], [0, 1, 2, 3, 4, 5, 6, 7, 8, 9, 10, 11, 12, 13, 14, 15, 16, 17, 18, 19, 23, 24, 25, 26, 27, 28, 29, 30, 31, 32, 33, 34, 35, 36, 37, 38, 39], [0, 1, 2, 3, 4, 5, 6, 7, 8, 9, 10, 11, 12, 13, 14, 15, 16, 17, 18, 19, 23, 24, 25, 26, 27, 28, 29, 30, 31, 32, 33, 34, 35, 36, 37, 38, 39], [0, 1, 2, 3, 4, 5, 6, 7, 8, 9, 10, 11, 12, 13, 14, 15, 16, 17, 18, 19, 23, 24, 25, 26, 27, 28, 29, 30, 31, 32, 33, 34, 35, 36, 37, 38, 39], [0, 1, 2, 3, 4, 5, 6, 7, 8, 9, 10, 11, 12, 13, 14, 15, 16, 17, 18, 19, 20, 21, 22, 26, 27, 28, 29, 30, 31, 32, 33, 34, 35, 36, 37, 38, 39], [0, 1, 2, 3, 4, 5, 6, 7, 8, 9, 10, 11, 12, 13, 14, 15, 16, 17, 18, 19, 20, 21, 22, 26, 27, 28, 29, 30, 31, 32, 33, 34, 35, 36, 37, 38, 39], [0, 1, 2, 3, 4, 5, 6, 7, 8, 9, 10, 11, 12, 13, 14, 15, 16, 17, 18, 19, 20, 21, 22, 26, 27, 28, 29, 30, 31, 32, 33, 34, 35, 36, 37, 38, 39], [0, 1, 2, 3, 4, 5, 6, 7, 8, 9, 10, 11, 12, 13, 14, 15, 16, 17, 18, 19, 20, 21, 22, 23, 24, 25, 29, 30, 31, 32, 33, 34, 35, 36, 37, 38, 39], [0, 1, 2, 3, 4, 5, 6, 7, 8, 9, 10, 11, 12, 13, 14, 15, 16, 17, 18, 19, 20, 21, 22, 23, 24, 25, 29, 30, 31, 32, 33, 34, 35, 36, 37, 38, 39], [0, 1, 2, 3, 4, 5, 6, 7, 8, 9, 10, 11, 12, 13, 14, 15, 16, 17, 18, 19, 20, 21, 22, 23, 24, 25, 29, 30, 31, 32, 33, 34, 35, 36, 37, 38, 39], [0, 1, 2, 3, 4, 5, 6, 7, 8, 9, 10, 11, 12, 13, 14, 15, 16, 17, 18, 19, 20, 21, 22, 23, 24, 25, 26, 27, 28, 33, 34, 35, 37, 38, 39], [0, 1, 2, 3, 4, 5, 6, 7, 8, 9, 10, 11, 12, 13, 14, 15, 16, 17, 18, 19, 20, 21, 22, 23, 24, 25, 26, 27, 28, 33, 34, 35, 37, 38, 39], [0, 1, 2, 3, 4, 5, 6, 7, 8, 9, 10, 11, 12, 13, 14, 15, 16, 17, 18, 19, 20, 21, 22, 23, 24, 25, 26, 27, 28, 33, 34, 35, 37, 38, 39], [0, 1, 2, 3, 4, 5, 6, 7, 8, 9, 10, 11, 12, 13, 14, 15, 20, 21, 22, 23, 24, 25, 26, 27, 28, 33, 34, 35, 37, 38, 39], [0, 1, 2, 3, 4, 5, 6, 7, 8, 9, 10, 11, 12, 13, 14, 15, 16, 17, 18, 19, 20, 21, 22, 23, 24, 25, 26, 27, 28, 29, 30, 31, 32, 37, 38, 39], [0, 1, 2, 3, 4, 5, 6, 7, 8, 9, 10, 11, 12, 13, 14, 15, 16, 17, 18, 19, 20, 21, 22, 23, 24, 25, 26, 27, 28, 29, 30, 31, 32, 37, 38, 39], [0, 1, 2, 3, 4, 5, 6, 7, 8, 9, 10, 11, 12, 13, 14, 15, 16, 17, 18, 19, 20, 21, 22, 23, 24, 25, 26, 27, 28, 29, 30, 31, 32, 37, 38, 39], [0, 1, 2, 3, 4, 5, 6, 7, 8, 9, 10, 11, 12, 13, 14, 15, 20, 21, 22, 23, 24, 25, 26, 27, 28, 37, 38, 39], [0, 1, 2, 3, 4, 5, 6, 7, 8, 9, 10, 11, 12, 13, 14, 15, 16, 17, 18, 19, 20, 21, 22, 23, 24, 25, 26, 27, 28, 29, 30, 31, 32, 33, 34, 35, 36], [0, 1, 2, 3, 4, 5, 6, 7, 8, 9, 10, 11, 12, 13, 14, 15, 16, 17, 18, 19, 20, 21, 22, 23, 24, 25, 26, 27, 28, 29, 30, 31, 32, 33, 34, 35, 36], [0, 1, 2, 3, 4, 5, 6, 7, 8, 9, 10, 11, 12, 13, 14, 15, 16, 17, 18, 19, 20, 21, 22, 23, 24, 25, 26, 27, 28, 29, 30, 31, 32, 33, 34, 35, 36], [], []]
  | _ => []
@[simp] def fp38 : FPol := { inpl := [], exp := false, sites := [200], mut_ := [], split := false }
@[simp] def keep39 : Nat → List Nat
  | 0 => [0]
  | 1 => [2]
  | _ => []
@[simp] def md39 : Nat → Bool
  | _ => false
@[simp] def od39 : Nat → List (List Nat)
  | _ => []
@[simp] def fp39 : FPol := { inpl := [], exp := false, sites := [], mut_ := [], split := false }
@[simp] def keep40 : Nat → List Nat
  | 0 => [0, 1]
  | 1 => [0, 1, 11]
  | 2 => [0, 17]
  | 3 => [4]
  | 4 => [0, 5]
  | 5 => [0, 5, 6]
  | 6 => [0, 5, 6, 23]
  | 7 => [0, 5, 6]
  | 8 => [0, 5, 6, 7]
  | 9 => [0, 5, 7]
  | 10 => [5, 7, 34]
  | 11 => [5, 7]
  | 12 => [4]
  | 13 => [4]
  | 14 => [9]
  | 15 => [4]
  | _ => []
@[simp] def md40 : Nat → Bool
  | _ => false
@[simp] def od40 : Nat → List (List Nat)
  | _ => []
@[simp] def fp40 : FPol := { inpl := [], exp := false, sites := [350], mut_ := [], split := false }
@[simp] def keep41 : Nat → List Nat
  | 0 => [0, 1]
  | 1 => [0, 1, 7, 8]
  | 2 => [0, 1, 7, 8, 9]
  | 3 => [0, 1, 5, 7, 8]
  | 4 => [0, 1, 5, 7, 8, 16]
  | 5 => [4]
  | 6 => [0, 1, 7, 8]
  | 7 => [4]
  | _ => []
@[simp] def md41 : Nat → Bool
  | _ => false
@[simp] def od41 : Nat → List (List Nat)
  | _ => []
@[simp] def fp41 : FPol := { inpl := [], exp := false, sites := [], mut_ := [], split := false }
@[simp] def keep42 : Nat → List Nat
  | 0 => [0]
  | 1 => [2]
  | _ => []
@[simp] def md42 : Nat → Bool
  | _ => false
@[simp] def od42 : Nat → List (List Nat)
  | _ => []
@[simp] def fp42 : FPol := { inpl := [], exp := false, sites := [], mut_ := [], split := false }
@[simp] def keep43 : Nat → List Nat
  | 0 => [0, 1]
  | 1 => [0, 1, 10]
  | 2 => [0, 1]
  | 3 => [0, 5, 6]
  | 4 => [0, 6, 26]
  | 5 => [0, 6]
  | 6 => [0, 7]
  | 7 => [7, 8]
  | 8 => [7, 8, 37]
  | 9 => [7, 8]
  | 10 => [4]
  | _ => []
@[simp] def md43 : Nat → Bool
  | _ => false
@[simp] def od43 : Nat → List (List Nat)
  | 9 => [[1, 2, 3, 4, 5, 6, 7], [0, 2, 4, 5, 6], [0, 1, 4, 5, 6], [0, 4, 5, 6], [0, 1, 2, 3, 5], [0, 1, 2, 3, 4], [0, 1, 2, 3], [0], [], []]
  | _ => []
@[simp] def fp43 : FPol := { inpl := [], exp := false, sites := [1600], mut_ := [], split := false }
@[simp] def keep44 : Nat → List Nat
  | 0 => [0, 1, 2]
  | 1 => [6]
  | _ => []
@[simp] def md44 : Nat → Bool
  | _ => false
@[simp] def od44 : Nat → List (List Nat)
  | _ => []
@[simp] def fp44 : FPol := { inpl := [], exp := false, sites := [], mut_ := [], split := false }
@[simp] def keep45 : Nat → List Nat
  | 0 => [0, 1]
  | 1 => [4]
  | _ => []
@[simp] def md45 : Nat → Bool
  | _ => false
@[simp] def od45 : Nat → List (List Nat)
  | _ => []
@[simp] def fp45 : FPol := { inpl := [], exp := false, sites := [], mut_ := [], split := false }
@[simp] def keep46 : Nat → List Nat
  | 0 => [0]
  | 1 => [2]
  | _ => []
@[simp] def md46 : Nat → Bool
  | _ => false
@[simp] def od46 : Nat → List (List Nat)
  | _ => []
@[simp] def fp46 : FPol := { inpl := [], exp := false, sites := [], mut_ := [], split := false }
@[simp] def keep47 : Nat → List Nat
  | 0 => [0, 1]
  | 1 => [4]
  | _ => []
@[simp] def md47 : Nat → Bool
  | _ => false
@[simp] def od47 : Nat → List (List Nat)
  | _ => []
@[simp] def fp47 : FPol := { inpl := [], exp := false, sites := [], mut_ := [], split := false }
@[simp] def keep48 : Nat → List Nat
  | 0 => [0, 1]
  | 1 => [4]
  | _ => []
@[simp] def md48 : Nat → Bool
  | _ => false
@[simp] def od48 : Nat → List (List Nat)
  | _ => []
@[simp] def fp48 : FPol := { inpl := [], exp := false, sites := [], mut_ := [], split := false }
@[simp] def keep49 : Nat → List Nat
  | 0 => [0]
  | 1 => [0, 3]
  | 2 => [0, 3, 9, 10, 11]
  | 3 => [0, 3, 9, 10, 11, 12]
  | 4 => [0, 3, 5, 9, 10, 11]
  | 5 => [0, 3, 9, 10, 11]
  | 6 => [0, 3, 9, 10, 11, 20]
  | 7 => [0, 3, 9, 10, 11]
  | 8 => [0, 3, 9, 10, 11]
  | 9 => [0, 6]
  | 10 => [6, 25, 26, 27]
  | 11 => [6, 25, 26, 27, 28]
  | 12 => [6, 8, 25, 26, 27]
  | 13 => [6, 25, 26, 27]
  | 14 => [6, 25, 26, 27]
  | 15 => [2]
  | _ => []
@[simp] def md49 : Nat → Bool
  | _ => false
@[simp] def od49 : Nat → List (List Nat)
  | _ => []
@[simp] def fp49 : FPol := { inpl := [], exp := false, sites := [1301, 1750], mut_ := [], split := false }
@[simp] def keep50 : Nat → List Nat
  | 0 => [1]
  | 1 => [2]
  | _ => []
@[simp] def md50 : Nat → Bool
  | _ => false
@[simp] def od50 : Nat → List (List Nat)
  | _ => []
@[simp] def fp50 : FPol := { inpl := [], exp := false, sites := [150], mut_ := [], split := false }
@[simp] def keep51 : Nat → List Nat
  | 0 => [1]
  | 1 => [2]
  | _ => []
@[simp] def md51 : Nat → Bool
  | _ => false
@[simp] def od51 : Nat → List (List Nat)
  | _ => []
@[simp] def fp51 : FPol := { inpl := [], exp := false, sites := [150], mut_ := [], split := false }
@[simp] def keep52 : Nat → List Nat
  | 0 => [1]
  | 1 => [1, 3]
  | 2 => [1, 3, 16, 17, 18]
  | 3 => [1, 3, 16, 17, 18, 19]
  | 4 => [1, 3, 4, 5, 16, 17, 18]
  | 5 => [1, 3, 16, 17, 18, 61]
  | 6 => [2]
  | 7 => [1, 3, 16, 17, 18]
  | 8 => [2]
  | _ => []
@[simp] def md52 : Nat → Bool
  | 5 => true
  | _ => false
@[simp] def od52 : Nat → List (List Nat)
  | 2 => [[1, 2, 3, 5, 6, 7, 10], [0, 5, 6, 7, 10], [0, 5, 6, 7, 10], [0, 5, 6, 7, 10], [5, 6, 7, 10], [0, 1, 2, 3, 4, 10], [0, 1, 2, 3, 4, 10], [0, 1, 2, 3, 4, 10], [10], [10], [0, 1, 2, 3, 4, 5, 6, 7, 8, 9]]
  | _ => []
@[simp] def fp52 : FPol := { inpl := [], exp := false, sites := [150, 250, 350], mut_ := [], split := false }
@[simp] def keep53 : Nat → List Nat
  | 0 => [0, 1]
  | 1 => [0, 1, 5]
  | 2 => [0, 1, 5, 18]
  | 3 => [0, 1]
  | 4 => [0, 1, 6]
  | 5 => [0, 1, 6, 7]
  | 6 => [0, 1, 6, 7, 25]
  | 7 => [0, 1, 6, 7]
  | 8 => [0, 1, 6, 7, 9]
  | 9 => [0, 1, 6, 7, 9]
  | 10 => [0, 1, 6, 7]
  | 11 => [0, 1, 6, 43]
  | 12 => [6]
  | 13 => [4]
  | _ => []
@[simp] def md53 : Nat → Bool
  | _ => false
@[simp] def od53 : Nat → List (List Nat)
  | _ => []
@[simp] def fp53 : FPol := { inpl := [], exp := false, sites := [1150], mut_ := [], split := false }
@[simp] def keep54 : Nat → List Nat
  | 0 => [0, 1]
  | 1 => [0, 1, 9]
  | 2 => [4]
  | 3 => [0, 1, 15]
  | 4 => [4]
  | 5 => [0, 1, 5]
  | 6 => [0, 1, 5, 6]
  | 7 => [0, 1, 5, 6, 24]
  | 8 => [4]
  | 9 => [0, 1, 5, 6]
  | 10 => [0, 1, 5]
  | _ => []
@[simp] def md54 : Nat → Bool
  | _ => false
@[simp] def od54 : Nat → List (List Nat)
  | _ => []
@[simp] def fp54 : FPol := { inpl := [], exp := false, sites := [], mut_ := [], split := false }
@[simp] def keep55 : Nat → List Nat
  | 0 => [0, 1]
  | 1 => [4]
  | _ => []
@[simp] def md55 : Nat → Bool
  | _ => false
@[simp] def od55 : Nat → List (List Nat)
  | _ => []
@[simp] def fp55 : FPol := { inpl := [], exp := false, sites := [], mut_ := [], split := false }
@[simp] def keep56 : Nat → List Nat
  | 0 => [0]
  | 1 => [0, 4, 5]
  | 2 => [4, 18]
  | 3 => [2, 3]
  | 4 => [2, 3]
  | _ => []
@[simp] def md56 : Nat → Bool
  | 2 => true
  | _ => false
@[simp] def od56 : Nat → List (List Nat)
  | _ => []
@[simp] def fp56 : FPol := { inpl := [], exp := false, sites := [], mut_ := [], split := false }
@[simp] def keep57 : Nat → List Nat
  | 0 => [0]
  | 1 => [2]
  | _ => []
@[simp] def md57 : Nat → Bool
  | _ => false
@[simp] def od57 : Nat → List (List Nat)
  | _ => []
@[simp] def fp57 : FPol := { inpl := [], exp := false, sites := [], mut_ := [], split := false }
@[simp] def keep58 : Nat → List Nat
  | 0 => [0]
  | 1 => [0, 4]
  | 2 => [2]
  | 3 => [2]
  | _ => []
@[simp] def md58 : Nat → Bool
  | _ => false
@[simp] def od58 : Nat → List (List Nat)
  | _ => []
@[simp] def fp58 : FPol := { inpl := [], exp := false, sites := [], mut_ := [], split := false }
@[simp] def keep59 : Nat → List Nat
  | 0 => [0]
  | 1 => [0, 3]
  | 2 => [2]
  | _ => []
@[simp] def md59 : Nat → Bool
  | _ => false
@[simp] def od59 : Nat → List (List Nat)
  | _ => []
@[simp] def fp59 : FPol := { inpl := [], exp := false, sites := [], mut_ := [], split := false }
@[simp] def keep60 : Nat → List Nat
  | 0 => [0, 1, 4]
  | 1 => [0, 1, 4, 20]
  | 2 => [0, 1, 4, 5]
  | 3 => [0, 1, 4, 5]
  | 4 => [0, 1, 4, 6, 7]
  | 5 => [0, 1, 4, 6, 8, 9]
  | 6 => [0, 1, 4, 8, 9, 10, 11]
  | 7 => [0, 1, 4, 8, 10, 11]
  | 8 => [0, 1, 4, 10, 11]
  | 9 => [0, 1, 4, 10]
  | 10 => [0, 1, 4]
  | 11 => [0, 1, 4]
  | 12 => [0, 4, 12]
  | 13 => [0, 4, 12, 99]
  | 14 => [0, 4, 12, 13]
  | 15 => [0, 4, 12, 13]
  | 16 => [0, 4, 12, 14, 15]
  | 17 => [0, 4, 12, 14]
  | 18 => [0, 4, 12]
  | 19 => [0, 4, 12]
  | 20 => [0, 4, 12, 139]
  | 21 => [0, 4, 12, 16]
  | 22 => [0, 4, 12, 16]
  | 23 => [0, 4, 12]
  | 24 => [0, 4, 12]
  | 25 => [0, 12, 161]
  | 26 => []
  | _ => []
@[simp] def md60 : Nat → Bool
  | _ => false
@[simp] def od60 : Nat → List (List Nat)
  | 7 => [[1, 2, 3, 4, 5, 6, 7, 8, 9, 10], [0, 3, 4, 5, 6, 7, 8, 9, 10], [0, 3, 4, 5, 6, 7, 8, 9, 10], [0, 1, 2, 4, 5, 6, 7, 8, 9, 10, 11, 12], [0, 1, 2, 3, 6, 7, 8, 9, 10, 11, 12], [0, 1, 2, 3, 6, 7, 8, 9, 10, 11, 12], [0, 1, 2, 3, 4, 5, 9, 10], [0, 1, 2, 3, 4, 5, 9, 10], [0, 1, 2, 3, 4, 5, 9, 10], [0, 1, 2, 3, 4, 5, 6, 7, 8, 11, 12], [0, 1, 2, 3, 4, 5, 6, 7, 8, 11, 12], [3, 4, 5, 9, 10], [3, 4, 5, 9, 10], [], []]
  | 8 => [[1, 2, 3, 4, 5, 6, 7, 8, 9, 10], [0, 3, 4, 5, 6, 7, 8, 9, 10], [0, 3, 4, 5, 6, 7, 8, 9, 10], [0, 1, 2, 4, 5, 6, 7, 8, 9, 10, 11, 12], [0, 1, 2, 3, 6, 7, 8, 9, 10, 11, 12], [0, 1, 2, 3, 6, 7, 8, 9, 10, 11, 12], [0, 1, 2, 3, 4, 5, 9, 10], [0, 1, 2, 3, 4, 5, 9, 10], [0, 1, 2, 3, 4, 5, 9, 10], [0, 1, 2, 3, 4, 5, 6, 7, 8, 11, 12], [0, 1, 2, 3, 4, 5, 6, 7, 8, 11, 12], [3, 4, 5, 9, 10], [3, 4, 5, 9, 10], [], []]
  | 9 => [[1, 2, 3, 4, 5, 6, 7, 8, 9, 10], [0, 3, 4, 5, 6, 7, 8, 9, 10], [0, 3, 4, 5, 6, 7, 8, 9, 10], [0, 1, 2, 4, 5, 6, 7, 8, 9, 10, 11, 12], [0, 1, 2, 3, 6, 7, 8, 9, 10, 11, 12], [0, 1, 2, 3, 6, 7, 8, 9, 10, 11, 12], [0, 1, 2, 3, 4, 5, 9, 10], [0, 1, 2, 3, 4, 5, 9, 10], [0, 1, 2, 3, 4, 5, 9, 10], [0, 1, 2, 3, 4, 5, 6, 7, 8, 11, 12], [0, 1, 2, 3, 4, 5, 6, 7, 8, 11, 12], [3, 4, 5, 9, 10], [3, 4, 5, 9, 10], [], []]
  | 10 => [[1, 2, 3, 4, 5, 6, 7, 8, 9, 10], [0, 3, 4, 5, 6, 7, 8, 9, 10], [0, 3, 4, 5, 6, 7, 8, 9, 10], [0, 1, 2, 4, 5, 6, 7, 8, 9, 10, 11, 12], [0, 1, 2, 3, 6, 7, 8, 9, 10, 11, 12], [0, 1, 2, 3, 6, 7, 8, 9, 10, 11, 12], [0, 1, 2, 3, 4, 5, 9, 10], [0, 1, 2, 3, 4, 5, 9, 10], [0, 1, 2, 3, 4, 5, 9, 10], [0, 1, 2, 3, 4, 5, 6, 7, 8, 11, 12], [0, 1, 2, 3, 4, 5, 6, 7, 8, 11, 12], [3, 4, 5, 9, 10], [3, 4, 5, 9, 10], [], []]
  | 17 => [[1, 2, 3, 4, 5, 6, 7, 8, 9, 10], [0, 3, 4, 5, 6, 7, 8, 9, 10], [0, 3, 4, 5, 6, 7, 8, 9, 10], [0, 1, 2, 4, 5, 6, 7, 8, 9, 10, 11, 12], [0, 1, 2, 3, 6, 7, 8, 9, 10, 11, 12], [0, 1, 2, 3, 6, 7, 8, 9, 10, 11, 12], [0, 1, 2, 3, 4, 5, 9, 10], [0, 1, 2, 3, 4, 5, 9, 10], [0, 1, 2, 3, 4, 5, 9, 10], [0, 1, 2, 3, 4, 5, 6, 7, 8, 11, 12], [0, 1, 2, 3, 4, 5, 6, 7, 8, 11, 12], [3, 4, 5, 9, 10], [3, 4, 5, 9, 10], [], []]
  | 18 => [[1, 2, 3, 4, 5, 6, 7, 8, 9, 10], [0, 3, 4, 5, 6, 7, 8, 9, 10], [0, 3, 4, 5, 6, 7, 8, 9, 10], [0, 1, 2, 4, 5, 6, 7, 8, 9, 10, 11, 12], [0, 1, 2, 3, 6, 7, 8, 9, 10, 11, 12], [0, 1, 2, 3, 6, 7, 8, 9, 10, 11, 12], [0, 1, 2, 3, 4, 5, 9, 10], [0, 1, 2, 3, 4, 5, 9, 10], [0, 1, 2, 3, 4, 5, 9, 10], [0, 1, 2, 3, 4, 5, 6, 7, 8, 11, 12], [0, 1, 2, 3, 4, 5, 6, 7, 8, 11, 12], [3, 4, 5, 9, 10], [3, 4, 5, 9, 10], [], []]
  | 23 => [[1, 2, 3, 4, 5, 6, 7, 8, 9, 10], [0, 3, 4, 5, 6, 7, 8, 9, 10], [0, 3, 4, 5, 6, 7, 8, 9, 10], [0, 1, 2, 4, 5, 6, 7, 8, 9, 10, 11, 12], [0, 1, 2, 3, 6, 7, 8, 9, 10, 11, 12], [0, 1, 2, 3, 6, 7, 8, 9, 10, 11, 12], [0, 1, 2, 3, 4, 5, 9, 10], [0, 1, 2, 3, 4, 5, 9, 10], [0, 1, 2, 3, 4, 5, 9, 10], [0, 1, 2, 3, 4, 5, 6, 7, 8, 11, 12], [0, 1, 2, 3, 4, 5, 6, 7, 8, 11, 12], [3, 4, 5, 9, 10], [3, 4, 5, 9, 10], [], []]
  | _ => []
@[simp] def fp60 : FPol := { inpl := [0], exp := false, sites := [], mut_ := [0], split := false }
@[simp] def keep61 : Nat → List Nat
  | 0 => [0, 1, 2, 3, 4, 10, 11]
  | 1 => [0, 1, 2, 3, 4, 10, 11, 28]
  | 2 => [0, 1, 2, 3, 4, 10, 11]
  | 3 => [0, 1, 2, 3, 4, 10, 11, 12]
  | 4 => [0, 1, 2, 3, 4, 10, 11, 12, 13]
  | 5 => [0, 1, 2, 3, 4, 10, 11, 12, 13, 30]
  | 6 => [0, 1, 2, 3, 4, 10, 11, 12, 13]
  | 7 => [0, 1, 2, 3, 4, 10, 11, 12, 13, 34]
  | 8 => [0, 1, 2, 3, 4, 10, 11, 12, 13, 14]
  | 9 => [0, 1, 2, 3, 4, 10, 11, 12, 13, 14, 15]
  | 10 => [0, 1, 3, 4, 10, 11, 12, 13, 14, 15, 16]
  | 11 => [0, 1, 3, 4, 10, 11, 12, 13, 14, 15, 16, 46]
  | 12 => [0, 1, 3, 4, 10, 11, 12, 13, 14, 15, 16]
  | 13 => [0, 1, 3, 4, 10, 11, 12, 13, 14, 15, 16]
  | 14 => [0, 1, 3, 4, 10, 11, 12, 13, 14, 15, 16]
  | 15 => [0, 1, 3, 4, 10, 11, 12, 13]
  | 16 => [0, 3, 4, 10, 11, 12, 13]
  | 17 => [0, 1, 3, 4, 10, 11, 12, 13, 17]
  | 18 => [0, 1, 3, 4, 10, 11, 12, 13, 17, 68]
  | 19 => [0, 1, 3, 4, 10, 11, 12, 13, 17]
  | 20 => [0, 1, 3, 4, 10, 11, 12, 13, 17, 18]
  | 21 => [0, 3, 4, 10, 11, 12, 13, 17, 18]
  | 22 => [0, 1, 3, 4, 10, 11, 12, 13, 17]
  | 23 => [0, 1, 3, 4, 10, 11, 12, 13]
  | 24 => [0, 3, 4, 10, 11, 12, 13]
  | 25 => [0, 4, 10, 11, 12, 13, 89]
  | 26 => [0, 4, 10, 11, 12, 13]
  | 27 => [0, 4, 10, 11, 12, 13]
  | 28 => [0, 10, 11, 12, 13, 94]
  | 29 => [10, 11]
  | 30 => [10, 11]
  | _ => []
@[simp] def md61 : Nat → Bool
  | _ => false
@[simp] def od61 : Nat → List (List Nat)
  | _ => []
@[simp] def fp61 : FPol := { inpl := [], exp := false, sites := [600, 700], mut_ := [], split := false }
@[simp] def keep62 : Nat → List Nat
  | 0 => [0, 1]
  | 1 => [6, 7]
  | 2 => [4, 5]
  | 3 => [8, 9]
  | 4 => [4, 5]
  | _ => []
@[simp] def md62 : Nat → Bool
  | _ => false
@[simp] def od62 : Nat → List (List Nat)
  | _ => []
@[simp] def fp62 : FPol := { inpl := [], exp := false, sites := [], mut_ := [], split := false }
@[simp] def keep63 : Nat → List Nat
  | 0 => [0, 1]
  | 1 => [0, 1, 7, 8]
  | 2 => [0, 1, 7, 8, 9]
  | 3 => [0, 1, 5, 7, 8]
  | 4 => [0, 1, 5, 7, 8, 16]
  | 5 => [4]
  | 6 => [0, 1, 7, 8]
  | 7 => [4]
  | _ => []
@[simp] def md63 : Nat → Bool
  | _ => false
@[simp] def od63 : Nat → List (List Nat)
  | _ => []
@[simp] def fp63 : FPol := { inpl := [], exp := false, sites := [], mut_ := [], split := false }
@[simp] def keep64 : Nat → List Nat
  | 0 => [0, 1, 2]
  | 1 => [0, 1, 2]
  | 2 => [0, 1, 2, 15]
  | 3 => [6]
  | 4 => [6]
  | _ => []
@[simp] def md64 : Nat → Bool
  | _ => false
@[simp] def od64 : Nat → List (List Nat)
  | _ => []
@[simp] def fp64 : FPol := { inpl := [], exp := false, sites := [], mut_ := [], split := false }
@[simp] def keep65 : Nat → List Nat
  | 0 => [0, 1]
  | 1 => [0, 1, 7, 8]
  | 2 => [0, 1, 7, 8, 9]
  | 3 => [0, 1, 5, 7, 8]
  | 4 => [0, 1, 5, 7, 8, 16]
  | 5 => [4]
  | 6 => [0, 1, 7, 8]
  | 7 => [4]
  | _ => []
@[simp] def md65 : Nat → Bool
  | _ => false
@[simp] def od65 : Nat → List (List Nat)
  | _ => []
@[simp] def fp65 : FPol := { inpl := [], exp := false, sites := [], mut_ := [], split := false }
@[simp] def keep66 : Nat → List Nat
  | 0 => [0, 1]
  | 1 => [0, 1, 6]
  | 2 => [0, 1]
  | 3 => [0, 1]
  | 4 => [0, 1, 16]
  | 5 => [0]
  | 6 => [4]
  | _ => []
@[simp] def md66 : Nat → Bool
  | _ => false
@[simp] def od66 : Nat → List (List Nat)
  | _ => []
@[simp] def gh66 : Nat → List Gh
  | 5 => [.trim 1200]
  | _ => []
@[simp] def fp66 : FPol := { inpl := [], exp := false, sites := [1200], mut_ := [1000], split := false }
@[simp] def keep67 : Nat → List Nat
  | 0 => [0, 2]
  | 1 => [2, 4]
  | 2 => [2, 4, 6]
  | 3 => [2, 4]
  | 4 => [2]
  | _ => []
@[simp] def md67 : Nat → Bool
  | _ => false
@[simp] def od67 : Nat → List (List Nat)
  | _ => []
@[simp] def fp67 : FPol := { inpl := [], exp := false, sites := [], mut_ := [], split := false }
@[simp] def keep68 : Nat → List Nat
  | 0 => [0]
  | 1 => [0, 10]
  | 2 => [2, 3]
  | 3 => [2, 3]
  | _ => []
@[simp] def md68 : Nat → Bool
  | 1 => true
  | _ => false
@[simp] def od68 : Nat → List (List Nat)
  | _ => []
@[simp] def fp68 : FPol := { inpl := [], exp := false, sites := [], mut_ := [], split := false }
@[simp] def keep70 : Nat → List Nat
  | 0 => [0, 1]
  | 1 => [0, 1, 5]
  | 2 => [0, 1, 5, 16]
  | 3 => [4]
  | 4 => [0, 1, 5, 24]
  | 5 => [4]
  | 6 => [0, 1, 5, 31]
  | 7 => [4]
  | 8 => [0, 1, 5, 36]
  | 9 => [4]
  | 10 => [0, 1, 5, 6]
  | 11 => [0, 1, 5, 6, 7]
  | 12 => [0, 1, 5, 6, 7, 8]
  | 13 => [0, 1, 5, 6, 7, 8, 9]
  | 14 => [0, 1, 5, 6, 7, 8, 9, 10]
  | 15 => [0, 1, 5, 6, 7, 8, 9, 10, 59]
  | 16 => [0, 1, 5, 6, 7, 8, 9, 10, 64]
  | 17 => [0, 1, 5, 6, 7, 8, 9, 10, 11]
  | 18 => [0, 1, 5, 6, 7, 8, 9, 10, 11, 73]
  | 19 => [4]
  | 20 => [0, 1, 5, 6, 7, 8, 9, 10]
  | 21 => [0, 1, 5, 6, 7, 8, 9, 10, 93]
  | 22 => [4]
  | 23 => [0, 1, 5, 6, 7, 8, 9, 10]
  | 24 => [0, 1, 5, 6, 7, 8, 9, 10]
  | 25 => [0, 1, 5, 6, 7, 8, 9, 10, 107]
  | 26 => [8, 12]
  | 27 => [8, 12, 114]
  | 28 => [4]
  | 29 => [4]
  | 30 => [0, 1, 5, 6, 7, 8, 9, 10, 132]
  | 31 => [8, 13]
  | 32 => [8, 13, 139]
  | 33 => [4]
  | 34 => [4]
  | 35 => [4]
  | _ => []
@[simp] def md70 : Nat → Bool
  | 21 => true
  | 25 => true
  | _ => false
@[simp] def od70 : Nat → List (List Nat)
  | _ => []
@[simp] def fp70 : FPol := { inpl := [], exp := false, sites := [], mut_ := [], split := false }
@[simp] def keep71 : Nat → List Nat
  | 0 => [0, 1, 2]
  | 1 => [0, 1, 2, 7, 8]
  | 2 => [0, 1, 2, 7, 8, 17]
  | 3 => [6, 7]
  | 4 => [6, 7]
  | _ => []
@[simp] def md71 : Nat → Bool
  | _ => false
@[simp] def od71 : Nat → List (List Nat)
  | _ => []
@[simp] def fp71 : FPol := { inpl := [], exp := false, sites := [], mut_ := [], split := false }
@[simp] def keep72 : Nat → List Nat
  | 0 => [0]
  | 1 => [2]
  | _ => []
@[simp] def md72 : Nat → Bool
  | _ => false
@[simp] def od72 : Nat → List (List Nat)
  | _ => []
@[simp] def fp72 : FPol := { inpl := [], exp := false, sites := [], mut_ := [], split := false }
@[simp] def keep73 : Nat → List Nat
  | 0 => [0, 2]
  | 1 => [0, 2, 4]
  | 2 => [0]
  | 3 => [0, 2]
  | 4 => [0, 2, 8]
  | 5 => [0, 2]
  | 6 => [0, 2]
  | 7 => [0, 2, 14]
  | 8 => [0, 2]
  | 9 => [0, 2]
  | 10 => [2]
  | _ => []
@[simp] def md73 : Nat → Bool
  | _ => false
@[simp] def od73 : Nat → List (List Nat)
  | _ => []
@[simp] def fp73 : FPol := { inpl := [], exp := false, sites := [], mut_ := [], split := false }
@[simp] def keep74 : Nat → List Nat
  | 0 => [0]
  | 1 => [3]
  | 2 => [2]
  | 3 => [2]
  | _ => []
@[simp] def md74 : Nat → Bool
  | _ => false
@[simp] def od74 : Nat → List (List Nat)
  | _ => []
@[simp] def fp74 : FPol := { inpl := [], exp := false, sites := [], mut_ := [], split := false }
@[simp] def keep75 : Nat → List Nat
  | 0 => [0]
  | 1 => [2]
  | _ => []
@[simp] def md75 : Nat → Bool
  | _ => false
@[simp] def od75 : Nat → List (List Nat)
  | _ => []
@[simp] def fp75 : FPol := { inpl := [], exp := false, sites := [], mut_ := [], split := false }
@[simp] def keep76 : Nat → List Nat
  | 0 => [0]
  | 1 => [2]
  | 2 => [2]
  | _ => []
@[simp] def md76 : Nat → Bool
  | _ => false
@[simp] def od76 : Nat → List (List Nat)
  | _ => []
@[simp] def fp76 : FPol := { inpl := [], exp := false, sites := [], mut_ := [], split := false }
@[simp] def keep77 : Nat → List Nat
  | 0 => [0, 1]
  | 1 => [6]
  | 2 => [4, 5]
  | _ => []
@[simp] def md77 : Nat → Bool
  | _ => false
@[simp] def od77 : Nat → List (List Nat)
  | _ => []
@[simp] def fp77 : FPol := { inpl := [], exp := false, sites := [], mut_ := [], split := false }
@[simp] def keep78 : Nat → List Nat
  | 0 => [0, 1]
  | 1 => [0, 1, 6]
  | 2 => [0, 1, 6, 7]
  | 3 => [0, 1, 6, 7, 8]
  | 4 => [0, 1, 6, 7, 8, 9]
  | 5 => [0, 1, 6, 7, 8, 9, 10]
  | 6 => [0, 1, 6, 7, 9, 11]
  | 7 => [0, 1, 6, 7, 9, 11, 12]
  | 8 => [0, 1, 6, 7, 9, 12, 13]
  | 9 => [0, 1, 7, 9, 12, 13]
  | 10 => [0, 1, 4]
  | 11 => [4, 5]
  | _ => []
@[simp] def md78 : Nat → Bool
  | _ => false
@[simp] def od78 : Nat → List (List Nat)
  | _ => []
@[simp] def fp78 : FPol := { inpl := [], exp := false, sites := [], mut_ := [], split := false }
@[simp] def keep79 : Nat → List Nat
  | 0 => [0]
  | 1 => [2]
  | _ => []
@[simp] def md79 : Nat → Bool
  | _ => false
@[simp] def od79 : Nat → List (List Nat)
  | _ => []
@[simp] def fp79 : FPol := { inpl := [], exp := false, sites := [], mut_ := [], split := false }
@[simp] def keep80 : Nat → List Nat
  | 0 => [0]
  | 1 => [2]
  | _ => []
@[simp] def md80 : Nat → Bool
  | _ => false
@[simp] def od80 : Nat → List (List Nat)
  | _ => []
@[simp] def fp80 : FPol := { inpl := [], exp := false, sites := [], mut_ := [], split := false }
@[simp] def keep81 : Nat → List Nat
  | 0 => [0, 1, 2]
  | 1 => [6]
  | _ => []
@[simp] def md81 : Nat → Bool
  | _ => false
@[simp] def od81 : Nat → List (List Nat)
  | _ => []
@[simp] def fp81 : FPol := { inpl := [], exp := false, sites := [], mut_ := [], split := false }
@[simp] def keep82 : Nat → List Nat
  | 0 => [0]
  | 1 => [0, 4]
  | 2 => [0, 4, 16]
  | 3 => [2, 3]
  | 4 => [0, 4, 5]
  | 5 => [0, 4, 5, 6]
  | 6 => [0, 4, 5, 6, 23]
  | 7 => [0, 7]
  | 8 => [2, 3]
  | 9 => [0, 4, 5, 6, 8]
  | 10 => [0, 4, 5, 8, 9]
  | 11 => [0, 5, 8, 9, 45]
  | 12 => [2, 3]
  | 13 => [0, 5, 8, 9, 10]
  | 14 => [0, 5, 8, 10, 57]
  | 15 => [2, 3]
  | 16 => [0, 5, 8, 10, 59]
  | 17 => [2, 3]
  | 18 => [0, 5, 8, 10, 11]
  | 19 => [0, 5, 8, 10, 11, 75]
  | 20 => [2, 3]
  | 21 => [0, 5, 10, 11, 77]
  | 22 => [2, 3]
  | 23 => [5, 10, 11, 12]
  | 24 => [5, 10, 11, 12, 98]
  | 25 => [2, 3]
  | 26 => [2, 3]
  | _ => []
@[simp] def md82 : Nat → Bool
  | _ => false
@[simp] def od82 : Nat → List (List Nat)
  | _ => []
@[simp] def fp82 : FPol := { inpl := [], exp := false, sites := [550], mut_ := [], split := false }
@[simp] def keep83 : Nat → List Nat
  | 0 => [0, 1]
  | 1 => [4]
  | _ => []
@[simp] def md83 : Nat → Bool
  | _ => false
@[simp] def od83 : Nat → List (List Nat)
  | _ => []
@[simp] def fp83 : FPol := { inpl := [], exp := false, sites := [], mut_ := [], split := false }
@[simp] def keep85 : Nat → List Nat
  | 0 => [0]
  | 1 => [2]
  | _ => []
@[simp] def md85 : Nat → Bool
  | _ => false
@[simp] def od85 : Nat → List (List Nat)
  | _ => []
@[simp] def fp85 : FPol := { inpl := [], exp := false, sites := [], mut_ := [], split := false }
@[simp] def keep86 : Nat → List Nat
  | 0 => [0, 1]
  | 1 => [0, 1, 5, 6]
  | 2 => [0, 1, 5, 6, 7]
  | 3 => [0, 1, 5, 6, 7, 8]
  | 4 => [0, 1, 5, 6, 7, 8, 9]
  | 5 => [0, 1, 5, 6, 7, 8, 9, 20]
  | 6 => [0, 1, 5, 6, 7, 8, 9]
  | 7 => [0, 1, 5, 6, 7, 8, 9]
  | 8 => [0, 1, 5, 6, 7, 8, 39]
  | 9 => [4]
  | 10 => [0, 1, 5, 6, 7, 8, 10]
  | 11 => [0, 1, 5, 6, 7, 8, 10, 44]
  | 12 => [0, 1, 5, 6, 7, 8, 10]
  | 13 => [0, 1, 5, 6, 7, 8, 10]
  | 14 => [0, 1, 5, 6, 7, 8, 10]
  | 15 => [0, 1, 5, 6, 7, 8, 10]
  | 16 => [0, 1, 5, 6, 7, 8, 10, 77]
  | 17 => [4]
  | 18 => [4]
  | _ => []
@[simp] def md86 : Nat → Bool
  | 8 => true
  | 16 => true
  | _ => false
@[simp] def od86 : Nat → List (List Nat)
  | _ => []
@[simp] def fp86 : FPol := { inpl := [], exp := false, sites := [], mut_ := [], split := false }
@[simp] def keep87 : Nat → List Nat
  | 0 => [0, 1, 2]
  | 1 => [0, 1, 2, 13]
  | 2 => [6, 7]
  | 3 => [0, 1, 2, 8]
  | 4 => [0, 1, 2, 8, 16]
  | 5 => [0, 1, 2, 8, 16, 17]
  | 6 => [0, 1, 2, 8]
  | 7 => [0, 1, 2, 8, 21]
  | 8 => [0, 1, 2]
  | 9 => [0, 1, 2, 8]
  | 10 => [0, 1, 2, 8]
  | 11 => [2, 7, 8, 9]
  | 12 => [2, 7, 8, 9, 38]
  | 13 => [6, 7]
  | 14 => [2, 8, 9, 41]
  | 15 => [2, 8, 9]
  | 16 => [8, 9, 10]
  | 17 => [8, 9, 10, 52]
  | 18 => [6, 7]
  | 19 => [8, 9, 10, 62]
  | 20 => [6, 7]
  | 21 => [8, 11]
  | 22 => [11, 69]
  | 23 => [11]
  | 24 => [6, 7]
  | _ => []
@[simp] def md87 : Nat → Bool
  | _ => false
@[simp] def od87 : Nat → List (List Nat)
  | _ => []
@[simp] def fp87 : FPol := { inpl := [], exp := false, sites := [], mut_ := [], split := false }
@[simp] def keep88 : Nat → List Nat
  | 0 => [0, 1, 2, 3, 4]
  | 1 => [0, 1, 2, 3, 4, 11]
  | 2 => [0, 1, 2, 3, 4, 11, 12]
  | 3 => [10]
  | 4 => [0, 1, 2, 3, 4, 11, 19]
  | 5 => [10]
  | 6 => [0, 1, 2, 3, 4, 11, 26]
  | 7 => [10]
  | 8 => [0, 1, 3, 4, 34]
  | 9 => [10]
  | 10 => [10]
  | _ => []
@[simp] def md88 : Nat → Bool
  | _ => false
@[simp] def od88 : Nat → List (List Nat)
  | _ => []
@[simp] def fp88 : FPol := { inpl := [], exp := false, sites := [], mut_ := [], split := false }
@[simp] def keep89 : Nat → List Nat
  | 0 => [0]
  | 1 => [0, 4]
  | 2 => [2]
  | 3 => [2]
  | _ => []
@[simp] def md89 : Nat → Bool
  | _ => false
@[simp] def od89 : Nat → List (List Nat)
  | _ => []
@[simp] def fp89 : FPol := { inpl := [], exp := false, sites := [], mut_ := [], split := false }
@[simp] def keep90 : Nat → List Nat
  | 0 => [0]
  | 1 => [0, 4]
  | 2 => [2]
  | 3 => [2]
  | _ => []
@[simp] def md90 : Nat → Bool
  | _ => false
@[simp] def od90 : Nat → List (List Nat)
  | _ => []
@[simp] def fp90 : FPol := { inpl := [], exp := false, sites := [], mut_ := [], split := false }
@[simp] def keep92 : Nat → List Nat
  | 0 => [0]
  | 1 => [0, 4]
  | 2 => [0, 4, 5]
  | 3 => [0, 4, 5, 12]
  | 4 => [0, 4, 5]
  | 5 => [0, 4, 5]
  | 6 => [0, 4, 6, 7]
  | 7 => [4, 6, 7, 8]
  | 8 => [4, 6, 7, 8, 25]
  | 9 => [4, 6, 7, 8]
  | 10 => [4, 6, 7, 8, 30]
  | 11 => [4, 6, 7, 8]
  | 12 => [4, 6, 7, 8]
  | 13 => [2, 3]
  | _ => []
@[simp] def md92 : Nat → Bool
  | _ => false
@[simp] def od92 : Nat → List (List Nat)
  | _ => []
@[simp] def fp92 : FPol := { inpl := [], exp := false, sites := [], mut_ := [], split := false }
@[simp] def keep93 : Nat → List Nat
  | 0 => [0, 1, 2]
  | 1 => [0, 1, 2, 19]
  | 2 => [6, 7]
  | 3 => [0, 1, 2, 8]
  | 4 => [0, 1, 2, 8, 9]
  | 5 => [6, 7]
  | 6 => [0, 1, 2, 8, 9, 25]
  | 7 => [0, 2, 8, 9, 32]
  | 8 => [0, 1, 2, 8, 9]
  | 9 => [0, 1, 2, 8, 9, 37]
  | 10 => [0, 1, 2, 8, 9]
  | 11 => [0, 1, 2, 8, 9]
  | 12 => [0, 2, 8, 9, 40]
  | 13 => [0, 1, 2, 8, 9]
  | 14 => [0, 1, 2, 8, 9]
  | 15 => [0, 2, 8, 9, 52]
  | 16 => [0, 1, 2, 8, 9]
  | 17 => [0, 1, 2, 8, 9]
  | 18 => [0, 2, 8, 9, 64]
  | 19 => [0, 1, 2, 8, 9]
  | 20 => [0, 1, 2, 8, 9]
  | 21 => [0, 1, 2, 8, 9, 77]
  | 22 => [0, 1, 2, 8, 9]
  | 23 => [0, 1, 2, 8, 9, 83]
  | 24 => [6, 7]
  | 25 => [0, 1, 2, 8, 9]
  | 26 => [0, 1, 2, 8, 9, 85]
  | 27 => [0, 1, 2, 8, 9, 10]
  | 28 => [0, 1, 2, 8, 9, 85, 90]
  | 29 => [0, 1, 2, 8, 9, 10]
  | 30 => [0, 1, 2, 8, 9, 92]
  | 31 => [0, 1, 2, 8, 9, 10]
  | 32 => [0, 1, 8, 9, 10, 11]
  | 33 => [0, 1, 8, 9, 10, 11, 12]
  | 34 => [0, 1, 8, 9, 10, 11, 12, 13]
  | 35 => [1, 8, 9, 10, 11, 12, 13, 99, 100, 101]
  | 36 => [1, 8, 9, 10, 11, 12, 13, 99, 100, 101, 102]
  | 37 => [1, 8, 9, 10, 11, 12, 13, 15, 99, 100, 101]
  | 38 => [1, 8, 9, 10, 11, 12, 13, 15, 99, 100, 101]
  | 39 => [6, 7]
  | 40 => [1, 8, 9, 10, 11, 12, 13, 15, 99, 100, 101, 106]
  | 41 => [1, 8, 9, 10, 11, 12, 13, 99, 100, 101]
  | 42 => [1, 8, 9, 10, 11, 12, 13, 15, 99, 100, 101, 112]
  | 43 => [1, 8, 9, 10, 11, 12, 13, 16, 99, 100, 101]
  | 44 => [1, 8, 9, 10, 11, 12, 13, 15, 99, 100, 101, 121]
  | 45 => [1, 8, 9, 10, 11, 12, 13, 16, 99, 100, 101]
  | 46 => [1, 8, 9, 10, 11, 12, 13, 16, 99, 100, 101, 137]
  | 47 => [6, 7]
  | 48 => [1, 8, 9, 10, 11, 12, 13, 16, 99, 100, 101, 141]
  | 49 => [6, 7]
  | 50 => [1, 8, 9, 10, 11, 12, 13, 16, 99, 100, 101]
  | 51 => [1, 8, 9, 10, 11, 12, 13, 17, 99, 100, 101]
  | 52 => [1, 8, 9, 10, 11, 12, 17, 99, 100, 101, 159]
  | 53 => [6, 7]
  | 54 => [1, 8, 9, 10, 11, 12, 13, 99, 100, 101]
  | 55 => [1, 8, 9, 10, 11, 12, 13, 99, 100, 101]
  | 56 => [13, 169]
  | 57 => [6, 7]
  | 58 => [6, 7]
  | _ => []
@[simp] def md93 : Nat → Bool
  | 12 => true
  | 15 => true
  | 18 => true
  | 44 => true
  | 56 => true
  | _ => false
@[simp] def od93 : Nat → List (List Nat)
  | _ => []
@[simp] def fp93 : FPol := { inpl := [], exp := false, sites := [], mut_ := [], split := false }
@[simp] def keep94 : Nat → List Nat
  | 0 => [0, 1]
  | 1 => [4]
  | _ => []
@[simp] def md94 : Nat → Bool
  | _ => false
@[simp] def od94 : Nat → List (List Nat)
  | 1 => [[1, 2, 3], [0, 3], [0, 3], [0, 1, 2], [], [], []]
  | _ => []
@[simp] def fp94 : FPol := { inpl := [], exp := false, sites := [600], mut_ := [], split := false }
@[simp] def keep95 : Nat → List Nat
  | 0 => [0, 1]
  | 1 => [4]
  | _ => []
@[simp] def md95 : Nat → Bool
  | _ => false
@[simp] def od95 : Nat → List (List Nat)
  | 1 => [[1, 2, 3], [0, 3], [0, 3], [0, 1, 2], [], [], []]
  | _ => []
@[simp] def fp95 : FPol := { inpl := [], exp := false, sites := [600], mut_ := [], split := false }
@[simp] def keep96 : Nat → List Nat
  | 0 => [0, 1, 2]
  | 1 => [6]
  | _ => []
@[simp] def md96 : Nat → Bool
  | _ => false
@[simp] def od96 : Nat → List (List Nat)
  | _ => []
@[simp] def fp96 : FPol := { inpl := [], exp := false, sites := [850], mut_ := [], split := false }
@[simp] def keep97 : Nat → List Nat
  | 0 => [0, 1, 2]
  | 1 => [6]
  | _ => []
@[simp] def md97 : Nat → Bool
  | _ => false
@[simp] def od97 : Nat → List (List Nat)
  | _ => []
@[simp] def fp97 : FPol := { inpl := [], exp := false, sites := [850], mut_ := [], split := false }
@[simp] def keep98 : Nat → List Nat
  | 0 => [0]
  | 1 => [2]
  | _ => []
@[simp] def md98 : Nat → Bool
  | _ => false
@[simp] def od98 : Nat → List (List Nat)
  | _ => []
@[simp] def fp98 : FPol := { inpl := [], exp := false, sites := [], mut_ := [], split := false }
@[simp] def keep99 : Nat → List Nat
  | 0 => [0]
  | 1 => [0, 3]
  | 2 => [0, 3, 4]
  | 3 => [0, 3, 4, 18]
  | 4 => [0, 3, 4]
  | 5 => [0, 3, 4, 5]
  | 6 => [0, 3, 4, 5, 46]
  | 7 => [0, 4]
  | 8 => [0, 3, 4]
  | 9 => [0, 3, 4, 5]
  | 10 => [0, 3, 4, 5, 54]
  | 11 => [0, 3, 4, 5]
  | 12 => [0, 3, 4, 5, 83]
  | 13 => [0, 3, 4, 5]
  | 14 => [0, 3, 4, 5, 87]
  | 15 => [0, 4, 5, 89]
  | 16 => [2]
  | 17 => [0, 3, 4, 5]
  | 18 => [0, 4, 5, 91]
  | 19 => [2]
  | 20 => [0, 3, 4, 5]
  | 21 => [2]
  | _ => []
@[simp] def md99 : Nat → Bool
  | 3 => true
  | 6 => true
  | 12 => true
  | _ => false
@[simp] def od99 : Nat → List (List Nat)
  | _ => []
@[simp] def fp99 : FPol := { inpl := [], exp := false, sites := [], mut_ := [], split := false }
@[simp] def keep100 : Nat → List Nat
  | 0 => [0]
  | 1 => [0, 6]
  | 2 => [2]
  | 3 => [0, 3]
  | 4 => [3]
  | 5 => [2]
  | _ => []
@[simp] def md100 : Nat → Bool
  | _ => false
@[simp] def od100 : Nat → List (List Nat)
  | _ => []
@[simp] def fp100 : FPol := { inpl := [], exp := false, sites := [550], mut_ := [], split := false }
@[simp] def keep101 : Nat → List Nat
  | 0 => [0]
  | 1 => [2]
  | _ => []
@[simp] def md101 : Nat → Bool
  | _ => false
@[simp] def od101 : Nat → List (List Nat)
  | _ => []
@[simp] def fp101 : FPol := { inpl := [], exp := false, sites := [350], mut_ := [], split := false }
end Go.Am
end
