/-
  Texts of one proof, one behind the other.
-/
import Derived.Test.YtecknaklaleloaaDoorP5
import Derived.Test.YtecknaklaleloaaDoorProg
import Derived.KernelRfl
import Derived.Lib.Bytealg
import Derived.Lib.Index
import Derived.Lib.Strings
import Derived.Lib.Split
import Derived.Lib.FieldsP
import Derived.Lib.ParseIntB
import Derived.Lib.ItoaNum
import Derived.Test.YtecknaklaleloaaDoorChecked
set_option linter.all false
section
namespace Go.Am
open Go
open Go.Proofs
@[simp] theorem tk_1 : tk Tryd.prog 1 = .func := by kernel_rfl
@[simp] theorem tsz_1 : tsz Tryd.prog 1 = some 1 := by kernel_rfl
@[simp] theorem tk_2 : tk Tryd.prog 2 = .int .i64 := by kernel_rfl
@[simp] theorem tsz_2 : tsz Tryd.prog 2 = some 1 := by kernel_rfl
@[simp] theorem tzero_2 : tzero Tryd.prog 2 = some ([.d (.int .i64 0)]) := by kernel_rfl
@[simp] theorem tbytes_2 : tbytes Tryd.prog 2 = some 8 := by kernel_rfl
@[simp] theorem tzeroD_2 : tzeroD Tryd.prog 2 = some (.int .i64 0) := by kernel_rfl
@[simp] theorem tk_3 : tk Tryd.prog 3 = .int .i64 := by kernel_rfl
@[simp] theorem tsz_3 : tsz Tryd.prog 3 = some 1 := by kernel_rfl
@[simp] theorem tzero_3 : tzero Tryd.prog 3 = some ([.d (.int .i64 0)]) := by kernel_rfl
@[simp] theorem tbytes_3 : tbytes Tryd.prog 3 = some 8 := by kernel_rfl
@[simp] theorem tzeroD_3 : tzeroD Tryd.prog 3 = some (.int .i64 0) := by kernel_rfl
@[simp] theorem tk_4 : tk Tryd.prog 4 = .bool := by kernel_rfl
@[simp] theorem tsz_4 : tsz Tryd.prog 4 = some 1 := by kernel_rfl
@[simp] theorem tzero_4 : tzero Tryd.prog 4 = some ([.d (.bool false)]) := by kernel_rfl
@[simp] theorem tbytes_4 : tbytes Tryd.prog 4 = some 1 := by kernel_rfl
@[simp] theorem tzeroD_4 : tzeroD Tryd.prog 4 = some (.bool false) := by kernel_rfl
@[simp] theorem tk_5 : tk Tryd.prog 5 = .int .u8 := by kernel_rfl
@[simp] theorem tsz_5 : tsz Tryd.prog 5 = some 1 := by kernel_rfl
@[simp] theorem tzero_5 : tzero Tryd.prog 5 = some ([.d (.int .u8 0)]) := by kernel_rfl
@[simp] theorem tbytes_5 : tbytes Tryd.prog 5 = some 1 := by kernel_rfl
@[simp] theorem tzeroD_5 : tzeroD Tryd.prog 5 = some (.int .u8 0) := by kernel_rfl
@[simp] theorem tk_6 : tk Tryd.prog 6 = .int .u8 := by kernel_rfl
@[simp] theorem tsz_6 : tsz Tryd.prog 6 = some 1 := by kernel_rfl
@[simp] theorem tzero_6 : tzero Tryd.prog 6 = some ([.d (.int .u8 0)]) := by kernel_rfl
@[simp] theorem tbytes_6 : tbytes Tryd.prog 6 = some 1 := by kernel_rfl
@[simp] theorem tzeroD_6 : tzeroD Tryd.prog 6 = some (.int .u8 0) := by kernel_rfl
@[simp] theorem tk_7 : tk Tryd.prog 7 = .struct := by kernel_rfl
@[simp] theorem tsz_7 : tsz Tryd.prog 7 = some 4 := by kernel_rfl
@[simp] theorem tzero_7 : tzero Tryd.prog 7 = some ([.d (.int .i64 0), .d (.int .i64 0), .d (.bool false), .d (.int .u8 0)]) := by kernel_rfl
@[simp] theorem tbytes_7 : tbytes Tryd.prog 7 = some 24 := by kernel_rfl
@[simp] theorem tzeroD_7 : tzeroD Tryd.prog 7 = some (.agg ([.int .i64 0, .int .i64 0, .bool false, .int .u8 0])) := by kernel_rfl
@[simp] theorem foff_7_0 : foff Tryd.prog 7 0 = some 0 := by kernel_rfl
@[simp] theorem ftyp_7_0 : ftyp Tryd.prog 7 0 = some 2 := by kernel_rfl
@[simp] theorem foff_7_1 : foff Tryd.prog 7 1 = some 1 := by kernel_rfl
@[simp] theorem ftyp_7_1 : ftyp Tryd.prog 7 1 = some 3 := by kernel_rfl
@[simp] theorem foff_7_2 : foff Tryd.prog 7 2 = some 2 := by kernel_rfl
@[simp] theorem ftyp_7_2 : ftyp Tryd.prog 7 2 = some 4 := by kernel_rfl
@[simp] theorem foff_7_3 : foff Tryd.prog 7 3 = some 3 := by kernel_rfl
@[simp] theorem ftyp_7_3 : ftyp Tryd.prog 7 3 = some 6 := by kernel_rfl
@[simp] theorem fplace_7 : fplace Tryd.prog 7 = some [(0, 1), (1, 1), (2, 1), (3, 1)] := by kernel_rfl
@[simp] theorem tk_8 : tk Tryd.prog 8 = .struct := by kernel_rfl
@[simp] theorem tsz_8 : tsz Tryd.prog 8 = some 4 := by kernel_rfl
@[simp] theorem tzero_8 : tzero Tryd.prog 8 = some ([.d (.int .i64 0), .d (.int .i64 0), .d (.bool false), .d (.int .u8 0)]) := by kernel_rfl
@[simp] theorem tbytes_8 : tbytes Tryd.prog 8 = some 24 := by kernel_rfl
@[simp] theorem tzeroD_8 : tzeroD Tryd.prog 8 = some (.agg ([.int .i64 0, .int .i64 0, .bool false, .int .u8 0])) := by kernel_rfl
@[simp] theorem foff_8_0 : foff Tryd.prog 8 0 = some 0 := by kernel_rfl
@[simp] theorem ftyp_8_0 : ftyp Tryd.prog 8 0 = some 2 := by kernel_rfl
@[simp] theorem foff_8_1 : foff Tryd.prog 8 1 = some 1 := by kernel_rfl
@[simp] theorem ftyp_8_1 : ftyp Tryd.prog 8 1 = some 3 := by kernel_rfl
@[simp] theorem foff_8_2 : foff Tryd.prog 8 2 = some 2 := by kernel_rfl
@[simp] theorem ftyp_8_2 : ftyp Tryd.prog 8 2 = some 4 := by kernel_rfl
@[simp] theorem foff_8_3 : foff Tryd.prog 8 3 = some 3 := by kernel_rfl
@[simp] theorem ftyp_8_3 : ftyp Tryd.prog 8 3 = some 6 := by kernel_rfl
@[simp] theorem fplace_8 : fplace Tryd.prog 8 = some [(0, 1), (1, 1), (2, 1), (3, 1)] := by kernel_rfl
@[simp] theorem tk_9 : tk Tryd.prog 9 = .str := by kernel_rfl
@[simp] theorem tsz_9 : tsz Tryd.prog 9 = some 1 := by kernel_rfl
@[simp] theorem tzero_9 : tzero Tryd.prog 9 = some ([.d (.str [])]) := by kernel_rfl
@[simp] theorem tbytes_9 : tbytes Tryd.prog 9 = some 16 := by kernel_rfl
@[simp] theorem tzeroD_9 : tzeroD Tryd.prog 9 = some (.str []) := by kernel_rfl
@[simp] theorem srcTy_9 : srcTy Tryd.prog 9 = true := by kernel_rfl
@[simp] theorem tk_10 : tk Tryd.prog 10 = .str := by kernel_rfl
@[simp] theorem tsz_10 : tsz Tryd.prog 10 = some 1 := by kernel_rfl
@[simp] theorem tzero_10 : tzero Tryd.prog 10 = some ([.d (.str [])]) := by kernel_rfl
@[simp] theorem tbytes_10 : tbytes Tryd.prog 10 = some 16 := by kernel_rfl
@[simp] theorem tzeroD_10 : tzeroD Tryd.prog 10 = some (.str []) := by kernel_rfl
@[simp] theorem srcTy_10 : srcTy Tryd.prog 10 = true := by kernel_rfl
@[simp] theorem tk_11 : tk Tryd.prog 11 = .str := by kernel_rfl
@[simp] theorem tsz_11 : tsz Tryd.prog 11 = some 1 := by kernel_rfl
@[simp] theorem tzero_11 : tzero Tryd.prog 11 = some ([.d (.str [])]) := by kernel_rfl
@[simp] theorem tbytes_11 : tbytes Tryd.prog 11 = some 16 := by kernel_rfl
@[simp] theorem tzeroD_11 : tzeroD Tryd.prog 11 = some (.str []) := by kernel_rfl
@[simp] theorem srcTy_11 : srcTy Tryd.prog 11 = true := by kernel_rfl
@[simp] theorem tk_12 : tk Tryd.prog 12 = .int .u64 := by kernel_rfl
@[simp] theorem tsz_12 : tsz Tryd.prog 12 = some 1 := by kernel_rfl
@[simp] theorem tzero_12 : tzero Tryd.prog 12 = some ([.d (.int .u64 0)]) := by kernel_rfl
@[simp] theorem tbytes_12 : tbytes Tryd.prog 12 = some 8 := by kernel_rfl
@[simp] theorem tzeroD_12 : tzeroD Tryd.prog 12 = some (.int .u64 0) := by kernel_rfl
@[simp] theorem tk_13 : tk Tryd.prog 13 = .struct := by kernel_rfl
@[simp] theorem tsz_13 : tsz Tryd.prog 13 = some 2 := by kernel_rfl
@[simp] theorem tzero_13 : tzero Tryd.prog 13 = some ([.d (.str []), .d (.int .u64 0)]) := by kernel_rfl
@[simp] theorem tbytes_13 : tbytes Tryd.prog 13 = some 24 := by kernel_rfl
@[simp] theorem tzeroD_13 : tzeroD Tryd.prog 13 = some (.agg ([.str [], .int .u64 0])) := by kernel_rfl
@[simp] theorem foff_13_0 : foff Tryd.prog 13 0 = some 0 := by kernel_rfl
@[simp] theorem ftyp_13_0 : ftyp Tryd.prog 13 0 = some 9 := by kernel_rfl
@[simp] theorem foff_13_1 : foff Tryd.prog 13 1 = some 1 := by kernel_rfl
@[simp] theorem ftyp_13_1 : ftyp Tryd.prog 13 1 = some 12 := by kernel_rfl
@[simp] theorem fplace_13 : fplace Tryd.prog 13 = some [(0, 1), (1, 1)] := by kernel_rfl
@[simp] theorem tk_14 : tk Tryd.prog 14 = .struct := by kernel_rfl
@[simp] theorem tsz_14 : tsz Tryd.prog 14 = some 2 := by kernel_rfl
@[simp] theorem tzero_14 : tzero Tryd.prog 14 = some ([.d (.str []), .d (.int .u64 0)]) := by kernel_rfl
@[simp] theorem tbytes_14 : tbytes Tryd.prog 14 = some 24 := by kernel_rfl
@[simp] theorem tzeroD_14 : tzeroD Tryd.prog 14 = some (.agg ([.str [], .int .u64 0])) := by kernel_rfl
@[simp] theorem foff_14_0 : foff Tryd.prog 14 0 = some 0 := by kernel_rfl
@[simp] theorem ftyp_14_0 : ftyp Tryd.prog 14 0 = some 9 := by kernel_rfl
@[simp] theorem foff_14_1 : foff Tryd.prog 14 1 = some 1 := by kernel_rfl
@[simp] theorem ftyp_14_1 : ftyp Tryd.prog 14 1 = some 12 := by kernel_rfl
@[simp] theorem fplace_14 : fplace Tryd.prog 14 = some [(0, 1), (1, 1)] := by kernel_rfl
@[simp] theorem tk_15 : tk Tryd.prog 15 = .ptr 265 := by kernel_rfl
@[simp] theorem tsz_15 : tsz Tryd.prog 15 = some 1 := by kernel_rfl
@[simp] theorem tk_16 : tk Tryd.prog 16 = .ptr 268 := by kernel_rfl
@[simp] theorem tsz_16 : tsz Tryd.prog 16 = some 1 := by kernel_rfl
@[simp] theorem tk_17 : tk Tryd.prog 17 = .ptr 276 := by kernel_rfl
@[simp] theorem tsz_17 : tsz Tryd.prog 17 = some 1 := by kernel_rfl
@[simp] theorem tk_18 : tk Tryd.prog 18 = .struct := by kernel_rfl
@[simp] theorem tsz_18 : tsz Tryd.prog 18 = some 1 := by kernel_rfl
@[simp] theorem tzero_18 : tzero Tryd.prog 18 = some ([.lit (.pointer none)]) := by kernel_rfl
@[simp] theorem foff_18_0 : foff Tryd.prog 18 0 = some 0 := by kernel_rfl
@[simp] theorem ftyp_18_0 : ftyp Tryd.prog 18 0 = some 17 := by kernel_rfl
@[simp] theorem fplace_18 : fplace Tryd.prog 18 = some [(0, 1)] := by kernel_rfl
@[simp] theorem tk_20 : tk Tryd.prog 20 = .iface := by kernel_rfl
@[simp] theorem tsz_20 : tsz Tryd.prog 20 = some 1 := by kernel_rfl
@[simp] theorem tk_21 : tk Tryd.prog 21 = .int .i32 := by kernel_rfl
@[simp] theorem tsz_21 : tsz Tryd.prog 21 = some 1 := by kernel_rfl
@[simp] theorem tzero_21 : tzero Tryd.prog 21 = some ([.d (.int .i32 0)]) := by kernel_rfl
@[simp] theorem tbytes_21 : tbytes Tryd.prog 21 = some 4 := by kernel_rfl
@[simp] theorem tzeroD_21 : tzeroD Tryd.prog 21 = some (.int .i32 0) := by kernel_rfl
@[simp] theorem tk_22 : tk Tryd.prog 22 = .func := by kernel_rfl
@[simp] theorem tsz_22 : tsz Tryd.prog 22 = some 1 := by kernel_rfl
@[simp] theorem tk_23 : tk Tryd.prog 23 = .slice 62 := by kernel_rfl
@[simp] theorem tsz_23 : tsz Tryd.prog 23 = some 1 := by kernel_rfl
@[simp] theorem tzero_23 : tzero Tryd.prog 23 = some ([.lit (.slice none 0 0)]) := by kernel_rfl
@[simp] theorem tbytes_23 : tbytes Tryd.prog 23 = some 24 := by kernel_rfl
@[simp] theorem tzeroD_23 : tzeroD Tryd.prog 23 = some (.list []) := by kernel_rfl
@[simp] theorem srcTy_23 : srcTy Tryd.prog 23 = true := by kernel_rfl
@[simp] theorem tk_24 : tk Tryd.prog 24 = .slice 40 := by kernel_rfl
@[simp] theorem tsz_24 : tsz Tryd.prog 24 = some 1 := by kernel_rfl
@[simp] theorem tzero_24 : tzero Tryd.prog 24 = some ([.lit (.slice none 0 0)]) := by kernel_rfl
@[simp] theorem tbytes_24 : tbytes Tryd.prog 24 = some 24 := by kernel_rfl
@[simp] theorem tzeroD_24 : tzeroD Tryd.prog 24 = some (.list []) := by kernel_rfl
@[simp] theorem srcTy_24 : srcTy Tryd.prog 24 = true := by kernel_rfl
@[simp] theorem tk_25 : tk Tryd.prog 25 = .struct := by kernel_rfl
@[simp] theorem tsz_25 : tsz Tryd.prog 25 = some 3 := by kernel_rfl
@[simp] theorem tzero_25 : tzero Tryd.prog 25 = some ([.d (.str []), .lit (.slice none 0 0), .lit (.slice none 0 0)]) := by kernel_rfl
@[simp] theorem tbytes_25 : tbytes Tryd.prog 25 = some 64 := by kernel_rfl
@[simp] theorem tzeroD_25 : tzeroD Tryd.prog 25 = some (.agg ([.str [], .list [], .list []])) := by kernel_rfl
@[simp] theorem foff_25_0 : foff Tryd.prog 25 0 = some 0 := by kernel_rfl
@[simp] theorem ftyp_25_0 : ftyp Tryd.prog 25 0 = some 9 := by kernel_rfl
@[simp] theorem foff_25_1 : foff Tryd.prog 25 1 = some 1 := by kernel_rfl
@[simp] theorem ftyp_25_1 : ftyp Tryd.prog 25 1 = some 23 := by kernel_rfl
@[simp] theorem foff_25_2 : foff Tryd.prog 25 2 = some 2 := by kernel_rfl
@[simp] theorem ftyp_25_2 : ftyp Tryd.prog 25 2 = some 24 := by kernel_rfl
@[simp] theorem fplace_25 : fplace Tryd.prog 25 = some [(0, 1), (1, 1), (2, 1)] := by kernel_rfl
@[simp] theorem tk_26 : tk Tryd.prog 26 = .struct := by kernel_rfl
@[simp] theorem tsz_26 : tsz Tryd.prog 26 = some 3 := by kernel_rfl
@[simp] theorem tzero_26 : tzero Tryd.prog 26 = some ([.d (.str []), .lit (.slice none 0 0), .lit (.slice none 0 0)]) := by kernel_rfl
@[simp] theorem tbytes_26 : tbytes Tryd.prog 26 = some 64 := by kernel_rfl
@[simp] theorem tzeroD_26 : tzeroD Tryd.prog 26 = some (.agg ([.str [], .list [], .list []])) := by kernel_rfl
@[simp] theorem foff_26_0 : foff Tryd.prog 26 0 = some 0 := by kernel_rfl
@[simp] theorem ftyp_26_0 : ftyp Tryd.prog 26 0 = some 9 := by kernel_rfl
@[simp] theorem foff_26_1 : foff Tryd.prog 26 1 = some 1 := by kernel_rfl
@[simp] theorem ftyp_26_1 : ftyp Tryd.prog 26 1 = some 23 := by kernel_rfl
@[simp] theorem foff_26_2 : foff Tryd.prog 26 2 = some 2 := by kernel_rfl
@[simp] theorem ftyp_26_2 : ftyp Tryd.prog 26 2 = some 24 := by kernel_rfl
@[simp] theorem fplace_26 : fplace Tryd.prog 26 = some [(0, 1), (1, 1), (2, 1)] := by kernel_rfl
@[simp] theorem tk_27 : tk Tryd.prog 27 = .int .i64 := by kernel_rfl
@[simp] theorem tsz_27 : tsz Tryd.prog 27 = some 1 := by kernel_rfl
@[simp] theorem tzero_27 : tzero Tryd.prog 27 = some ([.d (.int .i64 0)]) := by kernel_rfl
@[simp] theorem tbytes_27 : tbytes Tryd.prog 27 = some 8 := by kernel_rfl
@[simp] theorem tzeroD_27 : tzeroD Tryd.prog 27 = some (.int .i64 0) := by kernel_rfl
@[simp] theorem tk_28 : tk Tryd.prog 28 = .struct := by kernel_rfl
@[simp] theorem tsz_28 : tsz Tryd.prog 28 = some 5 := by kernel_rfl
@[simp] theorem tzero_28 : tzero Tryd.prog 28 = some ([.d (.int .i64 0), .d (.str []), .d (.int .i64 0), .d (.int .i64 0), .d (.int .i64 0)]) := by kernel_rfl
@[simp] theorem tbytes_28 : tbytes Tryd.prog 28 = some 48 := by kernel_rfl
@[simp] theorem tzeroD_28 : tzeroD Tryd.prog 28 = some (.agg ([.int .i64 0, .str [], .int .i64 0, .int .i64 0, .int .i64 0])) := by kernel_rfl
@[simp] theorem foff_28_0 : foff Tryd.prog 28 0 = some 0 := by kernel_rfl
@[simp] theorem ftyp_28_0 : ftyp Tryd.prog 28 0 = some 3 := by kernel_rfl
@[simp] theorem foff_28_1 : foff Tryd.prog 28 1 = some 1 := by kernel_rfl
@[simp] theorem ftyp_28_1 : ftyp Tryd.prog 28 1 = some 9 := by kernel_rfl
@[simp] theorem foff_28_2 : foff Tryd.prog 28 2 = some 2 := by kernel_rfl
@[simp] theorem ftyp_28_2 : ftyp Tryd.prog 28 2 = some 2 := by kernel_rfl
@[simp] theorem foff_28_3 : foff Tryd.prog 28 3 = some 3 := by kernel_rfl
@[simp] theorem ftyp_28_3 : ftyp Tryd.prog 28 3 = some 3 := by kernel_rfl
@[simp] theorem foff_28_4 : foff Tryd.prog 28 4 = some 4 := by kernel_rfl
@[simp] theorem ftyp_28_4 : ftyp Tryd.prog 28 4 = some 3 := by kernel_rfl
@[simp] theorem fplace_28 : fplace Tryd.prog 28 = some [(0, 1), (1, 1), (2, 1), (3, 1), (4, 1)] := by kernel_rfl
@[simp] theorem flat_28 : flatStruct Tryd.prog 28 = some [.int .i64, .str, .int .i64, .int .i64, .int .i64] := by kernel_rfl
@[simp] theorem tk_29 : tk Tryd.prog 29 = .struct := by kernel_rfl
@[simp] theorem tsz_29 : tsz Tryd.prog 29 = some 5 := by kernel_rfl
@[simp] theorem tzero_29 : tzero Tryd.prog 29 = some ([.d (.int .i64 0), .d (.str []), .d (.int .i64 0), .d (.int .i64 0), .d (.int .i64 0)]) := by kernel_rfl
@[simp] theorem tbytes_29 : tbytes Tryd.prog 29 = some 48 := by kernel_rfl
@[simp] theorem tzeroD_29 : tzeroD Tryd.prog 29 = some (.agg ([.int .i64 0, .str [], .int .i64 0, .int .i64 0, .int .i64 0])) := by kernel_rfl
@[simp] theorem foff_29_0 : foff Tryd.prog 29 0 = some 0 := by kernel_rfl
@[simp] theorem ftyp_29_0 : ftyp Tryd.prog 29 0 = some 3 := by kernel_rfl
@[simp] theorem foff_29_1 : foff Tryd.prog 29 1 = some 1 := by kernel_rfl
@[simp] theorem ftyp_29_1 : ftyp Tryd.prog 29 1 = some 9 := by kernel_rfl
@[simp] theorem foff_29_2 : foff Tryd.prog 29 2 = some 2 := by kernel_rfl
@[simp] theorem ftyp_29_2 : ftyp Tryd.prog 29 2 = some 2 := by kernel_rfl
@[simp] theorem foff_29_3 : foff Tryd.prog 29 3 = some 3 := by kernel_rfl
@[simp] theorem ftyp_29_3 : ftyp Tryd.prog 29 3 = some 3 := by kernel_rfl
@[simp] theorem foff_29_4 : foff Tryd.prog 29 4 = some 4 := by kernel_rfl
@[simp] theorem ftyp_29_4 : ftyp Tryd.prog 29 4 = some 3 := by kernel_rfl
@[simp] theorem fplace_29 : fplace Tryd.prog 29 = some [(0, 1), (1, 1), (2, 1), (3, 1), (4, 1)] := by kernel_rfl
@[simp] theorem flat_29 : flatStruct Tryd.prog 29 = some [.int .i64, .str, .int .i64, .int .i64, .int .i64] := by kernel_rfl
@[simp] theorem tk_31 : tk Tryd.prog 31 = .func := by kernel_rfl
@[simp] theorem tsz_31 : tsz Tryd.prog 31 = some 1 := by kernel_rfl
@[simp] theorem tk_32 : tk Tryd.prog 32 = .func := by kernel_rfl
@[simp] theorem tsz_32 : tsz Tryd.prog 32 = some 1 := by kernel_rfl
@[simp] theorem tk_33 : tk Tryd.prog 33 = .slice 35 := by kernel_rfl
@[simp] theorem tsz_33 : tsz Tryd.prog 33 = some 1 := by kernel_rfl
@[simp] theorem tzero_33 : tzero Tryd.prog 33 = some ([.lit (.slice none 0 0)]) := by kernel_rfl
@[simp] theorem tbytes_33 : tbytes Tryd.prog 33 = some 24 := by kernel_rfl
@[simp] theorem tzeroD_33 : tzeroD Tryd.prog 33 = some (.list []) := by kernel_rfl
@[simp] theorem srcTy_33 : srcTy Tryd.prog 33 = true := by kernel_rfl
@[simp] theorem tk_34 : tk Tryd.prog 34 = .struct := by kernel_rfl
@[simp] theorem tsz_34 : tsz Tryd.prog 34 = some 6 := by kernel_rfl
@[simp] theorem tzero_34 : tzero Tryd.prog 34 = some ([.d (.int .i64 0), .d (.int .i64 0), .d (.str []), .d (.str []), .lit (.slice none 0 0), .d (.int .i64 0)]) := by kernel_rfl
@[simp] theorem tbytes_34 : tbytes Tryd.prog 34 = some 80 := by kernel_rfl
@[simp] theorem tzeroD_34 : tzeroD Tryd.prog 34 = some (.agg ([.int .i64 0, .int .i64 0, .str [], .str [], .list [], .int .i64 0])) := by kernel_rfl
@[simp] theorem foff_34_0 : foff Tryd.prog 34 0 = some 0 := by kernel_rfl
@[simp] theorem ftyp_34_0 : ftyp Tryd.prog 34 0 = some 3 := by kernel_rfl
@[simp] theorem foff_34_1 : foff Tryd.prog 34 1 = some 1 := by kernel_rfl
@[simp] theorem ftyp_34_1 : ftyp Tryd.prog 34 1 = some 2 := by kernel_rfl
@[simp] theorem foff_34_2 : foff Tryd.prog 34 2 = some 2 := by kernel_rfl
@[simp] theorem ftyp_34_2 : ftyp Tryd.prog 34 2 = some 9 := by kernel_rfl
@[simp] theorem foff_34_3 : foff Tryd.prog 34 3 = some 3 := by kernel_rfl
@[simp] theorem ftyp_34_3 : ftyp Tryd.prog 34 3 = some 9 := by kernel_rfl
@[simp] theorem foff_34_4 : foff Tryd.prog 34 4 = some 4 := by kernel_rfl
@[simp] theorem ftyp_34_4 : ftyp Tryd.prog 34 4 = some 33 := by kernel_rfl
@[simp] theorem foff_34_5 : foff Tryd.prog 34 5 = some 5 := by kernel_rfl
@[simp] theorem ftyp_34_5 : ftyp Tryd.prog 34 5 = some 3 := by kernel_rfl
@[simp] theorem fplace_34 : fplace Tryd.prog 34 = some [(0, 1), (1, 1), (2, 1), (3, 1), (4, 1), (5, 1)] := by kernel_rfl
@[simp] theorem tk_35 : tk Tryd.prog 35 = .struct := by kernel_rfl
@[simp] theorem tsz_35 : tsz Tryd.prog 35 = some 6 := by kernel_rfl
@[simp] theorem tzero_35 : tzero Tryd.prog 35 = some ([.d (.int .i64 0), .d (.int .i64 0), .d (.str []), .d (.str []), .lit (.slice none 0 0), .d (.int .i64 0)]) := by kernel_rfl
@[simp] theorem tbytes_35 : tbytes Tryd.prog 35 = some 80 := by kernel_rfl
@[simp] theorem tzeroD_35 : tzeroD Tryd.prog 35 = some (.agg ([.int .i64 0, .int .i64 0, .str [], .str [], .list [], .int .i64 0])) := by kernel_rfl
@[simp] theorem foff_35_0 : foff Tryd.prog 35 0 = some 0 := by kernel_rfl
@[simp] theorem ftyp_35_0 : ftyp Tryd.prog 35 0 = some 3 := by kernel_rfl
@[simp] theorem foff_35_1 : foff Tryd.prog 35 1 = some 1 := by kernel_rfl
@[simp] theorem ftyp_35_1 : ftyp Tryd.prog 35 1 = some 2 := by kernel_rfl
@[simp] theorem foff_35_2 : foff Tryd.prog 35 2 = some 2 := by kernel_rfl
@[simp] theorem ftyp_35_2 : ftyp Tryd.prog 35 2 = some 9 := by kernel_rfl
@[simp] theorem foff_35_3 : foff Tryd.prog 35 3 = some 3 := by kernel_rfl
@[simp] theorem ftyp_35_3 : ftyp Tryd.prog 35 3 = some 9 := by kernel_rfl
@[simp] theorem foff_35_4 : foff Tryd.prog 35 4 = some 4 := by kernel_rfl
@[simp] theorem ftyp_35_4 : ftyp Tryd.prog 35 4 = some 33 := by kernel_rfl
@[simp] theorem foff_35_5 : foff Tryd.prog 35 5 = some 5 := by kernel_rfl
@[simp] theorem ftyp_35_5 : ftyp Tryd.prog 35 5 = some 3 := by kernel_rfl
@[simp] theorem fplace_35 : fplace Tryd.prog 35 = some [(0, 1), (1, 1), (2, 1), (3, 1), (4, 1), (5, 1)] := by kernel_rfl
@[simp] theorem tk_36 : tk Tryd.prog 36 = .slice 83 := by kernel_rfl
@[simp] theorem tsz_36 : tsz Tryd.prog 36 = some 1 := by kernel_rfl
@[simp] theorem tzero_36 : tzero Tryd.prog 36 = some ([.lit (.slice none 0 0)]) := by kernel_rfl
@[simp] theorem tbytes_36 : tbytes Tryd.prog 36 = some 24 := by kernel_rfl
@[simp] theorem tzeroD_36 : tzeroD Tryd.prog 36 = some (.list []) := by kernel_rfl
@[simp] theorem srcTy_36 : srcTy Tryd.prog 36 = true := by kernel_rfl
@[simp] theorem tk_37 : tk Tryd.prog 37 = .slice 9 := by kernel_rfl
@[simp] theorem tsz_37 : tsz Tryd.prog 37 = some 1 := by kernel_rfl
@[simp] theorem tzero_37 : tzero Tryd.prog 37 = some ([.lit (.slice none 0 0)]) := by kernel_rfl
@[simp] theorem tbytes_37 : tbytes Tryd.prog 37 = some 24 := by kernel_rfl
@[simp] theorem tzeroD_37 : tzeroD Tryd.prog 37 = some (.list []) := by kernel_rfl
@[simp] theorem srcTy_37 : srcTy Tryd.prog 37 = true := by kernel_rfl
@[simp] theorem tk_38 : tk Tryd.prog 38 = .slice 24 := by kernel_rfl
@[simp] theorem tsz_38 : tsz Tryd.prog 38 = some 1 := by kernel_rfl
@[simp] theorem tzero_38 : tzero Tryd.prog 38 = some ([.lit (.slice none 0 0)]) := by kernel_rfl
@[simp] theorem tbytes_38 : tbytes Tryd.prog 38 = some 24 := by kernel_rfl
@[simp] theorem tzeroD_38 : tzeroD Tryd.prog 38 = some (.list []) := by kernel_rfl
@[simp] theorem srcTy_38 : srcTy Tryd.prog 38 = true := by kernel_rfl
@[simp] theorem tk_39 : tk Tryd.prog 39 = .struct := by kernel_rfl
@[simp] theorem tsz_39 : tsz Tryd.prog 39 = some 19 := by kernel_rfl
@[simp] theorem tzero_39 : tzero Tryd.prog 39 = some ([.d (.int .i64 0), .d (.str []), .d (.int .i64 0), .d (.int .i64 0), .d (.str []), .d (.str []), .lit (.slice none 0 0), .d (.int .i64 0), .d (.int .i64 0), .d (.int .i64 0), .d (.str []), .d (.str []), .lit (.slice none 0 0), .d (.int .i64 0), .lit (.slice none 0 0), .lit (.slice none 0 0), .lit (.slice none 0 0), .lit (.slice none 0 0), .d (.int .i64 0)]) := by kernel_rfl
@[simp] theorem tbytes_39 : tbytes Tryd.prog 39 = some 288 := by kernel_rfl
@[simp] theorem tzeroD_39 : tzeroD Tryd.prog 39 = some (.agg ([.int .i64 0, .str [], .int .i64 0, .int .i64 0, .str [], .str [], .list [], .int .i64 0, .int .i64 0, .int .i64 0, .str [], .str [], .list [], .int .i64 0, .list [], .list [], .list [], .list [], .int .i64 0])) := by kernel_rfl
@[simp] theorem foff_39_0 : foff Tryd.prog 39 0 = some 0 := by kernel_rfl
@[simp] theorem ftyp_39_0 : ftyp Tryd.prog 39 0 = some 3 := by kernel_rfl
@[simp] theorem foff_39_1 : foff Tryd.prog 39 1 = some 1 := by kernel_rfl
@[simp] theorem ftyp_39_1 : ftyp Tryd.prog 39 1 = some 9 := by kernel_rfl
@[simp] theorem foff_39_2 : foff Tryd.prog 39 2 = some 2 := by kernel_rfl
@[simp] theorem ftyp_39_2 : ftyp Tryd.prog 39 2 = some 35 := by kernel_rfl
@[simp] theorem foff_39_3 : foff Tryd.prog 39 3 = some 8 := by kernel_rfl
@[simp] theorem ftyp_39_3 : ftyp Tryd.prog 39 3 = some 35 := by kernel_rfl
@[simp] theorem foff_39_4 : foff Tryd.prog 39 4 = some 14 := by kernel_rfl
@[simp] theorem ftyp_39_4 : ftyp Tryd.prog 39 4 = some 33 := by kernel_rfl
@[simp] theorem foff_39_5 : foff Tryd.prog 39 5 = some 15 := by kernel_rfl
@[simp] theorem ftyp_39_5 : ftyp Tryd.prog 39 5 = some 36 := by kernel_rfl
@[simp] theorem foff_39_6 : foff Tryd.prog 39 6 = some 16 := by kernel_rfl
@[simp] theorem ftyp_39_6 : ftyp Tryd.prog 39 6 = some 37 := by kernel_rfl
@[simp] theorem foff_39_7 : foff Tryd.prog 39 7 = some 17 := by kernel_rfl
@[simp] theorem ftyp_39_7 : ftyp Tryd.prog 39 7 = some 38 := by kernel_rfl
@[simp] theorem foff_39_8 : foff Tryd.prog 39 8 = some 18 := by kernel_rfl
@[simp] theorem ftyp_39_8 : ftyp Tryd.prog 39 8 = some 3 := by kernel_rfl
@[simp] theorem fplace_39 : fplace Tryd.prog 39 = some [(0, 1), (1, 1), (2, 6), (8, 6), (14, 1), (15, 1), (16, 1), (17, 1), (18, 1)] := by kernel_rfl
@[simp] theorem tk_40 : tk Tryd.prog 40 = .struct := by kernel_rfl
@[simp] theorem tsz_40 : tsz Tryd.prog 40 = some 19 := by kernel_rfl
@[simp] theorem tzero_40 : tzero Tryd.prog 40 = some ([.d (.int .i64 0), .d (.str []), .d (.int .i64 0), .d (.int .i64 0), .d (.str []), .d (.str []), .lit (.slice none 0 0), .d (.int .i64 0), .d (.int .i64 0), .d (.int .i64 0), .d (.str []), .d (.str []), .lit (.slice none 0 0), .d (.int .i64 0), .lit (.slice none 0 0), .lit (.slice none 0 0), .lit (.slice none 0 0), .lit (.slice none 0 0), .d (.int .i64 0)]) := by kernel_rfl
@[simp] theorem tbytes_40 : tbytes Tryd.prog 40 = some 288 := by kernel_rfl
@[simp] theorem tzeroD_40 : tzeroD Tryd.prog 40 = some (.agg ([.int .i64 0, .str [], .int .i64 0, .int .i64 0, .str [], .str [], .list [], .int .i64 0, .int .i64 0, .int .i64 0, .str [], .str [], .list [], .int .i64 0, .list [], .list [], .list [], .list [], .int .i64 0])) := by kernel_rfl
@[simp] theorem foff_40_0 : foff Tryd.prog 40 0 = some 0 := by kernel_rfl
@[simp] theorem ftyp_40_0 : ftyp Tryd.prog 40 0 = some 3 := by kernel_rfl
@[simp] theorem foff_40_1 : foff Tryd.prog 40 1 = some 1 := by kernel_rfl
@[simp] theorem ftyp_40_1 : ftyp Tryd.prog 40 1 = some 9 := by kernel_rfl
@[simp] theorem foff_40_2 : foff Tryd.prog 40 2 = some 2 := by kernel_rfl
@[simp] theorem ftyp_40_2 : ftyp Tryd.prog 40 2 = some 35 := by kernel_rfl
@[simp] theorem foff_40_3 : foff Tryd.prog 40 3 = some 8 := by kernel_rfl
@[simp] theorem ftyp_40_3 : ftyp Tryd.prog 40 3 = some 35 := by kernel_rfl
@[simp] theorem foff_40_4 : foff Tryd.prog 40 4 = some 14 := by kernel_rfl
@[simp] theorem ftyp_40_4 : ftyp Tryd.prog 40 4 = some 33 := by kernel_rfl
@[simp] theorem foff_40_5 : foff Tryd.prog 40 5 = some 15 := by kernel_rfl
@[simp] theorem ftyp_40_5 : ftyp Tryd.prog 40 5 = some 36 := by kernel_rfl
@[simp] theorem foff_40_6 : foff Tryd.prog 40 6 = some 16 := by kernel_rfl
@[simp] theorem ftyp_40_6 : ftyp Tryd.prog 40 6 = some 37 := by kernel_rfl
@[simp] theorem foff_40_7 : foff Tryd.prog 40 7 = some 17 := by kernel_rfl
@[simp] theorem ftyp_40_7 : ftyp Tryd.prog 40 7 = some 38 := by kernel_rfl
@[simp] theorem foff_40_8 : foff Tryd.prog 40 8 = some 18 := by kernel_rfl
@[simp] theorem ftyp_40_8 : ftyp Tryd.prog 40 8 = some 3 := by kernel_rfl
@[simp] theorem fplace_40 : fplace Tryd.prog 40 = some [(0, 1), (1, 1), (2, 6), (8, 6), (14, 1), (15, 1), (16, 1), (17, 1), (18, 1)] := by kernel_rfl
@[simp] theorem tk_48 : tk Tryd.prog 48 = .func := by kernel_rfl
@[simp] theorem tsz_48 : tsz Tryd.prog 48 = some 1 := by kernel_rfl
@[simp] theorem tk_50 : tk Tryd.prog 50 = .func := by kernel_rfl
@[simp] theorem tsz_50 : tsz Tryd.prog 50 = some 1 := by kernel_rfl
@[simp] theorem tk_57 : tk Tryd.prog 57 = .func := by kernel_rfl
@[simp] theorem tsz_57 : tsz Tryd.prog 57 = some 1 := by kernel_rfl
@[simp] theorem tk_61 : tk Tryd.prog 61 = .struct := by kernel_rfl
@[simp] theorem tsz_61 : tsz Tryd.prog 61 = some 8 := by kernel_rfl
@[simp] theorem tzero_61 : tzero Tryd.prog 61 = some ([.d (.str []), .d (.int .i64 0), .d (.int .i64 0), .d (.bool false), .d (.int .i64 0), .d (.int .i64 0), .d (.int .i64 0), .d (.int .i64 0)]) := by kernel_rfl
@[simp] theorem tbytes_61 : tbytes Tryd.prog 61 = some 72 := by kernel_rfl
@[simp] theorem tzeroD_61 : tzeroD Tryd.prog 61 = some (.agg ([.str [], .int .i64 0, .int .i64 0, .bool false, .int .i64 0, .int .i64 0, .int .i64 0, .int .i64 0])) := by kernel_rfl
@[simp] theorem foff_61_0 : foff Tryd.prog 61 0 = some 0 := by kernel_rfl
@[simp] theorem ftyp_61_0 : ftyp Tryd.prog 61 0 = some 9 := by kernel_rfl
@[simp] theorem foff_61_1 : foff Tryd.prog 61 1 = some 1 := by kernel_rfl
@[simp] theorem ftyp_61_1 : ftyp Tryd.prog 61 1 = some 3 := by kernel_rfl
@[simp] theorem foff_61_2 : foff Tryd.prog 61 2 = some 2 := by kernel_rfl
@[simp] theorem ftyp_61_2 : ftyp Tryd.prog 61 2 = some 3 := by kernel_rfl
@[simp] theorem foff_61_3 : foff Tryd.prog 61 3 = some 3 := by kernel_rfl
@[simp] theorem ftyp_61_3 : ftyp Tryd.prog 61 3 = some 4 := by kernel_rfl
@[simp] theorem foff_61_4 : foff Tryd.prog 61 4 = some 4 := by kernel_rfl
@[simp] theorem ftyp_61_4 : ftyp Tryd.prog 61 4 = some 2 := by kernel_rfl
@[simp] theorem foff_61_5 : foff Tryd.prog 61 5 = some 5 := by kernel_rfl
@[simp] theorem ftyp_61_5 : ftyp Tryd.prog 61 5 = some 2 := by kernel_rfl
@[simp] theorem foff_61_6 : foff Tryd.prog 61 6 = some 6 := by kernel_rfl
@[simp] theorem ftyp_61_6 : ftyp Tryd.prog 61 6 = some 2 := by kernel_rfl
@[simp] theorem foff_61_7 : foff Tryd.prog 61 7 = some 7 := by kernel_rfl
@[simp] theorem ftyp_61_7 : ftyp Tryd.prog 61 7 = some 3 := by kernel_rfl
@[simp] theorem fplace_61 : fplace Tryd.prog 61 = some [(0, 1), (1, 1), (2, 1), (3, 1), (4, 1), (5, 1), (6, 1), (7, 1)] := by kernel_rfl
@[simp] theorem flat_61 : flatStruct Tryd.prog 61 = some [.str, .int .i64, .int .i64, .bool, .int .i64, .int .i64, .int .i64, .int .i64] := by kernel_rfl
@[simp] theorem tk_62 : tk Tryd.prog 62 = .struct := by kernel_rfl
@[simp] theorem tsz_62 : tsz Tryd.prog 62 = some 8 := by kernel_rfl
@[simp] theorem tzero_62 : tzero Tryd.prog 62 = some ([.d (.str []), .d (.int .i64 0), .d (.int .i64 0), .d (.bool false), .d (.int .i64 0), .d (.int .i64 0), .d (.int .i64 0), .d (.int .i64 0)]) := by kernel_rfl
@[simp] theorem tbytes_62 : tbytes Tryd.prog 62 = some 72 := by kernel_rfl
@[simp] theorem tzeroD_62 : tzeroD Tryd.prog 62 = some (.agg ([.str [], .int .i64 0, .int .i64 0, .bool false, .int .i64 0, .int .i64 0, .int .i64 0, .int .i64 0])) := by kernel_rfl
@[simp] theorem foff_62_0 : foff Tryd.prog 62 0 = some 0 := by kernel_rfl
@[simp] theorem ftyp_62_0 : ftyp Tryd.prog 62 0 = some 9 := by kernel_rfl
@[simp] theorem foff_62_1 : foff Tryd.prog 62 1 = some 1 := by kernel_rfl
@[simp] theorem ftyp_62_1 : ftyp Tryd.prog 62 1 = some 3 := by kernel_rfl
@[simp] theorem foff_62_2 : foff Tryd.prog 62 2 = some 2 := by kernel_rfl
@[simp] theorem ftyp_62_2 : ftyp Tryd.prog 62 2 = some 3 := by kernel_rfl
@[simp] theorem foff_62_3 : foff Tryd.prog 62 3 = some 3 := by kernel_rfl
@[simp] theorem ftyp_62_3 : ftyp Tryd.prog 62 3 = some 4 := by kernel_rfl
@[simp] theorem foff_62_4 : foff Tryd.prog 62 4 = some 4 := by kernel_rfl
@[simp] theorem ftyp_62_4 : ftyp Tryd.prog 62 4 = some 2 := by kernel_rfl
@[simp] theorem foff_62_5 : foff Tryd.prog 62 5 = some 5 := by kernel_rfl
@[simp] theorem ftyp_62_5 : ftyp Tryd.prog 62 5 = some 2 := by kernel_rfl
@[simp] theorem foff_62_6 : foff Tryd.prog 62 6 = some 6 := by kernel_rfl
@[simp] theorem ftyp_62_6 : ftyp Tryd.prog 62 6 = some 2 := by kernel_rfl
@[simp] theorem foff_62_7 : foff Tryd.prog 62 7 = some 7 := by kernel_rfl
@[simp] theorem ftyp_62_7 : ftyp Tryd.prog 62 7 = some 3 := by kernel_rfl
@[simp] theorem fplace_62 : fplace Tryd.prog 62 = some [(0, 1), (1, 1), (2, 1), (3, 1), (4, 1), (5, 1), (6, 1), (7, 1)] := by kernel_rfl
@[simp] theorem flat_62 : flatStruct Tryd.prog 62 = some [.str, .int .i64, .int .i64, .bool, .int .i64, .int .i64, .int .i64, .int .i64] := by kernel_rfl
@[simp] theorem tk_63 : tk Tryd.prog 63 = .slice 29 := by kernel_rfl
@[simp] theorem tsz_63 : tsz Tryd.prog 63 = some 1 := by kernel_rfl
@[simp] theorem tzero_63 : tzero Tryd.prog 63 = some ([.lit (.slice none 0 0)]) := by kernel_rfl
@[simp] theorem tbytes_63 : tbytes Tryd.prog 63 = some 24 := by kernel_rfl
@[simp] theorem tzeroD_63 : tzeroD Tryd.prog 63 = some (.list []) := by kernel_rfl
@[simp] theorem srcTy_63 : srcTy Tryd.prog 63 = true := by kernel_rfl
@[simp] theorem tk_65 : tk Tryd.prog 65 = .func := by kernel_rfl
@[simp] theorem tsz_65 : tsz Tryd.prog 65 = some 1 := by kernel_rfl
@[simp] theorem tk_66 : tk Tryd.prog 66 = .struct := by kernel_rfl
@[simp] theorem tsz_66 : tsz Tryd.prog 66 = some 6 := by kernel_rfl
@[simp] theorem tzero_66 : tzero Tryd.prog 66 = some ([.d (.int .i64 0), .d (.int .i64 0), .d (.str []), .d (.int .i64 0), .d (.int .i64 0), .d (.int .i64 0)]) := by kernel_rfl
@[simp] theorem tbytes_66 : tbytes Tryd.prog 66 = some 56 := by kernel_rfl
@[simp] theorem tzeroD_66 : tzeroD Tryd.prog 66 = some (.agg ([.int .i64 0, .int .i64 0, .str [], .int .i64 0, .int .i64 0, .int .i64 0])) := by kernel_rfl
@[simp] theorem foff_66_0 : foff Tryd.prog 66 0 = some 0 := by kernel_rfl
@[simp] theorem ftyp_66_0 : ftyp Tryd.prog 66 0 = some 27 := by kernel_rfl
@[simp] theorem foff_66_1 : foff Tryd.prog 66 1 = some 1 := by kernel_rfl
@[simp] theorem ftyp_66_1 : ftyp Tryd.prog 66 1 = some 29 := by kernel_rfl
@[simp] theorem fplace_66 : fplace Tryd.prog 66 = some [(0, 1), (1, 5)] := by kernel_rfl
@[simp] theorem flat_66 : flatStruct Tryd.prog 66 = some [.int .i64, .int .i64, .str, .int .i64, .int .i64, .int .i64] := by kernel_rfl
@[simp] theorem tk_67 : tk Tryd.prog 67 = .struct := by kernel_rfl
@[simp] theorem tsz_67 : tsz Tryd.prog 67 = some 6 := by kernel_rfl
@[simp] theorem tzero_67 : tzero Tryd.prog 67 = some ([.d (.int .i64 0), .d (.int .i64 0), .d (.str []), .d (.int .i64 0), .d (.int .i64 0), .d (.int .i64 0)]) := by kernel_rfl
@[simp] theorem tbytes_67 : tbytes Tryd.prog 67 = some 56 := by kernel_rfl
@[simp] theorem tzeroD_67 : tzeroD Tryd.prog 67 = some (.agg ([.int .i64 0, .int .i64 0, .str [], .int .i64 0, .int .i64 0, .int .i64 0])) := by kernel_rfl
@[simp] theorem foff_67_0 : foff Tryd.prog 67 0 = some 0 := by kernel_rfl
@[simp] theorem ftyp_67_0 : ftyp Tryd.prog 67 0 = some 27 := by kernel_rfl
@[simp] theorem foff_67_1 : foff Tryd.prog 67 1 = some 1 := by kernel_rfl
@[simp] theorem ftyp_67_1 : ftyp Tryd.prog 67 1 = some 29 := by kernel_rfl
@[simp] theorem fplace_67 : fplace Tryd.prog 67 = some [(0, 1), (1, 5)] := by kernel_rfl
@[simp] theorem flat_67 : flatStruct Tryd.prog 67 = some [.int .i64, .int .i64, .str, .int .i64, .int .i64, .int .i64] := by kernel_rfl
@[simp] theorem tk_69 : tk Tryd.prog 69 = .ptr 71 := by kernel_rfl
@[simp] theorem tsz_69 : tsz Tryd.prog 69 = some 1 := by kernel_rfl
@[simp] theorem tk_70 : tk Tryd.prog 70 = .struct := by kernel_rfl
@[simp] theorem tsz_70 : tsz Tryd.prog 70 = some 4 := by kernel_rfl
@[simp] theorem tzero_70 : tzero Tryd.prog 70 = some ([.lit (.slice none 0 0), .d (.int .i64 0), .d (.int .i64 0), .lit (.slice none 0 0)]) := by kernel_rfl
@[simp] theorem tbytes_70 : tbytes Tryd.prog 70 = some 64 := by kernel_rfl
@[simp] theorem tzeroD_70 : tzeroD Tryd.prog 70 = some (.agg ([.list [], .int .i64 0, .int .i64 0, .list []])) := by kernel_rfl
@[simp] theorem foff_70_0 : foff Tryd.prog 70 0 = some 0 := by kernel_rfl
@[simp] theorem ftyp_70_0 : ftyp Tryd.prog 70 0 = some 63 := by kernel_rfl
@[simp] theorem foff_70_1 : foff Tryd.prog 70 1 = some 1 := by kernel_rfl
@[simp] theorem ftyp_70_1 : ftyp Tryd.prog 70 1 = some 3 := by kernel_rfl
@[simp] theorem foff_70_2 : foff Tryd.prog 70 2 = some 2 := by kernel_rfl
@[simp] theorem ftyp_70_2 : ftyp Tryd.prog 70 2 = some 3 := by kernel_rfl
@[simp] theorem foff_70_3 : foff Tryd.prog 70 3 = some 3 := by kernel_rfl
@[simp] theorem ftyp_70_3 : ftyp Tryd.prog 70 3 = some 23 := by kernel_rfl
@[simp] theorem fplace_70 : fplace Tryd.prog 70 = some [(0, 1), (1, 1), (2, 1), (3, 1)] := by kernel_rfl
@[simp] theorem tk_71 : tk Tryd.prog 71 = .struct := by kernel_rfl
@[simp] theorem tsz_71 : tsz Tryd.prog 71 = some 4 := by kernel_rfl
@[simp] theorem tzero_71 : tzero Tryd.prog 71 = some ([.lit (.slice none 0 0), .d (.int .i64 0), .d (.int .i64 0), .lit (.slice none 0 0)]) := by kernel_rfl
@[simp] theorem tbytes_71 : tbytes Tryd.prog 71 = some 64 := by kernel_rfl
@[simp] theorem tzeroD_71 : tzeroD Tryd.prog 71 = some (.agg ([.list [], .int .i64 0, .int .i64 0, .list []])) := by kernel_rfl
@[simp] theorem foff_71_0 : foff Tryd.prog 71 0 = some 0 := by kernel_rfl
@[simp] theorem ftyp_71_0 : ftyp Tryd.prog 71 0 = some 63 := by kernel_rfl
@[simp] theorem foff_71_1 : foff Tryd.prog 71 1 = some 1 := by kernel_rfl
@[simp] theorem ftyp_71_1 : ftyp Tryd.prog 71 1 = some 3 := by kernel_rfl
@[simp] theorem foff_71_2 : foff Tryd.prog 71 2 = some 2 := by kernel_rfl
@[simp] theorem ftyp_71_2 : ftyp Tryd.prog 71 2 = some 3 := by kernel_rfl
@[simp] theorem foff_71_3 : foff Tryd.prog 71 3 = some 3 := by kernel_rfl
@[simp] theorem ftyp_71_3 : ftyp Tryd.prog 71 3 = some 23 := by kernel_rfl
@[simp] theorem fplace_71 : fplace Tryd.prog 71 = some [(0, 1), (1, 1), (2, 1), (3, 1)] := by kernel_rfl
@[simp] theorem tk_79 : tk Tryd.prog 79 = .func := by kernel_rfl
@[simp] theorem tsz_79 : tsz Tryd.prog 79 = some 1 := by kernel_rfl
@[simp] theorem tk_83 : tk Tryd.prog 83 = .slice 2 := by kernel_rfl
@[simp] theorem tsz_83 : tsz Tryd.prog 83 = some 1 := by kernel_rfl
@[simp] theorem tzero_83 : tzero Tryd.prog 83 = some ([.lit (.slice none 0 0)]) := by kernel_rfl
@[simp] theorem tbytes_83 : tbytes Tryd.prog 83 = some 24 := by kernel_rfl
@[simp] theorem tzeroD_83 : tzeroD Tryd.prog 83 = some (.list []) := by kernel_rfl
@[simp] theorem srcTy_83 : srcTy Tryd.prog 83 = true := by kernel_rfl
@[simp] theorem tk_89 : tk Tryd.prog 89 = .func := by kernel_rfl
@[simp] theorem tsz_89 : tsz Tryd.prog 89 = some 1 := by kernel_rfl
@[simp] theorem tk_90 : tk Tryd.prog 90 = .func := by kernel_rfl
@[simp] theorem tsz_90 : tsz Tryd.prog 90 = some 1 := by kernel_rfl
@[simp] theorem tk_95 : tk Tryd.prog 95 = .func := by kernel_rfl
@[simp] theorem tsz_95 : tsz Tryd.prog 95 = some 1 := by kernel_rfl
@[simp] theorem tk_97 : tk Tryd.prog 97 = .ptr 99 := by kernel_rfl
@[simp] theorem tsz_97 : tsz Tryd.prog 97 = some 1 := by kernel_rfl
@[simp] theorem tk_98 : tk Tryd.prog 98 = .struct := by kernel_rfl
@[simp] theorem tsz_98 : tsz Tryd.prog 98 = some 4 := by kernel_rfl
@[simp] theorem tzero_98 : tzero Tryd.prog 98 = some ([.d (.str []), .d (.int .i64 0), .d (.int .i64 0), .d (.int .i64 0)]) := by kernel_rfl
@[simp] theorem tbytes_98 : tbytes Tryd.prog 98 = some 40 := by kernel_rfl
@[simp] theorem tzeroD_98 : tzeroD Tryd.prog 98 = some (.agg ([.str [], .int .i64 0, .int .i64 0, .int .i64 0])) := by kernel_rfl
@[simp] theorem foff_98_0 : foff Tryd.prog 98 0 = some 0 := by kernel_rfl
@[simp] theorem ftyp_98_0 : ftyp Tryd.prog 98 0 = some 9 := by kernel_rfl
@[simp] theorem foff_98_1 : foff Tryd.prog 98 1 = some 1 := by kernel_rfl
@[simp] theorem ftyp_98_1 : ftyp Tryd.prog 98 1 = some 3 := by kernel_rfl
@[simp] theorem foff_98_2 : foff Tryd.prog 98 2 = some 2 := by kernel_rfl
@[simp] theorem ftyp_98_2 : ftyp Tryd.prog 98 2 = some 3 := by kernel_rfl
@[simp] theorem foff_98_3 : foff Tryd.prog 98 3 = some 3 := by kernel_rfl
@[simp] theorem ftyp_98_3 : ftyp Tryd.prog 98 3 = some 3 := by kernel_rfl
@[simp] theorem fplace_98 : fplace Tryd.prog 98 = some [(0, 1), (1, 1), (2, 1), (3, 1)] := by kernel_rfl
@[simp] theorem flat_98 : flatStruct Tryd.prog 98 = some [.str, .int .i64, .int .i64, .int .i64] := by kernel_rfl
@[simp] theorem tk_99 : tk Tryd.prog 99 = .struct := by kernel_rfl
@[simp] theorem tsz_99 : tsz Tryd.prog 99 = some 4 := by kernel_rfl
@[simp] theorem tzero_99 : tzero Tryd.prog 99 = some ([.d (.str []), .d (.int .i64 0), .d (.int .i64 0), .d (.int .i64 0)]) := by kernel_rfl
@[simp] theorem tbytes_99 : tbytes Tryd.prog 99 = some 40 := by kernel_rfl
@[simp] theorem tzeroD_99 : tzeroD Tryd.prog 99 = some (.agg ([.str [], .int .i64 0, .int .i64 0, .int .i64 0])) := by kernel_rfl
@[simp] theorem foff_99_0 : foff Tryd.prog 99 0 = some 0 := by kernel_rfl
@[simp] theorem ftyp_99_0 : ftyp Tryd.prog 99 0 = some 9 := by kernel_rfl
@[simp] theorem foff_99_1 : foff Tryd.prog 99 1 = some 1 := by kernel_rfl
@[simp] theorem ftyp_99_1 : ftyp Tryd.prog 99 1 = some 3 := by kernel_rfl
@[simp] theorem foff_99_2 : foff Tryd.prog 99 2 = some 2 := by kernel_rfl
@[simp] theorem ftyp_99_2 : ftyp Tryd.prog 99 2 = some 3 := by kernel_rfl
@[simp] theorem foff_99_3 : foff Tryd.prog 99 3 = some 3 := by kernel_rfl
@[simp] theorem ftyp_99_3 : ftyp Tryd.prog 99 3 = some 3 := by kernel_rfl
@[simp] theorem fplace_99 : fplace Tryd.prog 99 = some [(0, 1), (1, 1), (2, 1), (3, 1)] := by kernel_rfl
@[simp] theorem flat_99 : flatStruct Tryd.prog 99 = some [.str, .int .i64, .int .i64, .int .i64] := by kernel_rfl
@[simp] theorem tk_108 : tk Tryd.prog 108 = .slice 110 := by kernel_rfl
@[simp] theorem tsz_108 : tsz Tryd.prog 108 = some 1 := by kernel_rfl
@[simp] theorem tzero_108 : tzero Tryd.prog 108 = some ([.lit (.slice none 0 0)]) := by kernel_rfl
@[simp] theorem tbytes_108 : tbytes Tryd.prog 108 = some 24 := by kernel_rfl
@[simp] theorem tzeroD_108 : tzeroD Tryd.prog 108 = some (.list []) := by kernel_rfl
@[simp] theorem srcTy_108 : srcTy Tryd.prog 108 = true := by kernel_rfl
@[simp] theorem tk_109 : tk Tryd.prog 109 = .struct := by kernel_rfl
@[simp] theorem tsz_109 : tsz Tryd.prog 109 = some 2 := by kernel_rfl
@[simp] theorem tzero_109 : tzero Tryd.prog 109 = some ([.d (.int .i64 0), .d (.int .i64 0)]) := by kernel_rfl
@[simp] theorem tbytes_109 : tbytes Tryd.prog 109 = some 16 := by kernel_rfl
@[simp] theorem tzeroD_109 : tzeroD Tryd.prog 109 = some (.agg ([.int .i64 0, .int .i64 0])) := by kernel_rfl
@[simp] theorem foff_109_0 : foff Tryd.prog 109 0 = some 0 := by kernel_rfl
@[simp] theorem ftyp_109_0 : ftyp Tryd.prog 109 0 = some 3 := by kernel_rfl
@[simp] theorem foff_109_1 : foff Tryd.prog 109 1 = some 1 := by kernel_rfl
@[simp] theorem ftyp_109_1 : ftyp Tryd.prog 109 1 = some 3 := by kernel_rfl
@[simp] theorem fplace_109 : fplace Tryd.prog 109 = some [(0, 1), (1, 1)] := by kernel_rfl
@[simp] theorem flat_109 : flatStruct Tryd.prog 109 = some [.int .i64, .int .i64] := by kernel_rfl
@[simp] theorem tk_110 : tk Tryd.prog 110 = .struct := by kernel_rfl
@[simp] theorem tsz_110 : tsz Tryd.prog 110 = some 2 := by kernel_rfl
@[simp] theorem tzero_110 : tzero Tryd.prog 110 = some ([.d (.int .i64 0), .d (.int .i64 0)]) := by kernel_rfl
@[simp] theorem tbytes_110 : tbytes Tryd.prog 110 = some 16 := by kernel_rfl
@[simp] theorem tzeroD_110 : tzeroD Tryd.prog 110 = some (.agg ([.int .i64 0, .int .i64 0])) := by kernel_rfl
@[simp] theorem foff_110_0 : foff Tryd.prog 110 0 = some 0 := by kernel_rfl
@[simp] theorem ftyp_110_0 : ftyp Tryd.prog 110 0 = some 3 := by kernel_rfl
@[simp] theorem foff_110_1 : foff Tryd.prog 110 1 = some 1 := by kernel_rfl
@[simp] theorem ftyp_110_1 : ftyp Tryd.prog 110 1 = some 3 := by kernel_rfl
@[simp] theorem fplace_110 : fplace Tryd.prog 110 = some [(0, 1), (1, 1)] := by kernel_rfl
@[simp] theorem flat_110 : flatStruct Tryd.prog 110 = some [.int .i64, .int .i64] := by kernel_rfl
@[simp] theorem tk_117 : tk Tryd.prog 117 = .func := by kernel_rfl
@[simp] theorem tsz_117 : tsz Tryd.prog 117 = some 1 := by kernel_rfl
@[simp] theorem tk_119 : tk Tryd.prog 119 = .func := by kernel_rfl
@[simp] theorem tsz_119 : tsz Tryd.prog 119 = some 1 := by kernel_rfl
@[simp] theorem tk_122 : tk Tryd.prog 122 = .struct := by kernel_rfl
@[simp] theorem tsz_122 : tsz Tryd.prog 122 = some 2 := by kernel_rfl
@[simp] theorem tzero_122 : tzero Tryd.prog 122 = some ([.d (.int .i64 0), .d (.int .i64 0)]) := by kernel_rfl
@[simp] theorem tbytes_122 : tbytes Tryd.prog 122 = some 16 := by kernel_rfl
@[simp] theorem tzeroD_122 : tzeroD Tryd.prog 122 = some (.agg ([.int .i64 0, .int .i64 0])) := by kernel_rfl
@[simp] theorem foff_122_0 : foff Tryd.prog 122 0 = some 0 := by kernel_rfl
@[simp] theorem ftyp_122_0 : ftyp Tryd.prog 122 0 = some 2 := by kernel_rfl
@[simp] theorem foff_122_1 : foff Tryd.prog 122 1 = some 1 := by kernel_rfl
@[simp] theorem ftyp_122_1 : ftyp Tryd.prog 122 1 = some 2 := by kernel_rfl
@[simp] theorem fplace_122 : fplace Tryd.prog 122 = some [(0, 1), (1, 1)] := by kernel_rfl
@[simp] theorem flat_122 : flatStruct Tryd.prog 122 = some [.int .i64, .int .i64] := by kernel_rfl
@[simp] theorem tk_126 : tk Tryd.prog 126 = .slice 278 := by kernel_rfl
@[simp] theorem tsz_126 : tsz Tryd.prog 126 = some 1 := by kernel_rfl
@[simp] theorem tzero_126 : tzero Tryd.prog 126 = some ([.lit (.slice none 0 0)]) := by kernel_rfl
@[simp] theorem tbytes_126 : tbytes Tryd.prog 126 = some 24 := by kernel_rfl
@[simp] theorem tzeroD_126 : tzeroD Tryd.prog 126 = some (.list []) := by kernel_rfl
@[simp] theorem srcTy_126 : srcTy Tryd.prog 126 = true := by kernel_rfl
@[simp] theorem tk_127 : tk Tryd.prog 127 = .struct := by kernel_rfl
@[simp] theorem tsz_127 : tsz Tryd.prog 127 = some 2 := by kernel_rfl
@[simp] theorem tzero_127 : tzero Tryd.prog 127 = some ([.lit (.slice none 0 0), .lit (.slice none 0 0)]) := by kernel_rfl
@[simp] theorem tbytes_127 : tbytes Tryd.prog 127 = some 48 := by kernel_rfl
@[simp] theorem tzeroD_127 : tzeroD Tryd.prog 127 = some (.agg ([.list [], .list []])) := by kernel_rfl
@[simp] theorem foff_127_0 : foff Tryd.prog 127 0 = some 0 := by kernel_rfl
@[simp] theorem ftyp_127_0 : ftyp Tryd.prog 127 0 = some 126 := by kernel_rfl
@[simp] theorem foff_127_1 : foff Tryd.prog 127 1 = some 1 := by kernel_rfl
@[simp] theorem ftyp_127_1 : ftyp Tryd.prog 127 1 = some 126 := by kernel_rfl
@[simp] theorem fplace_127 : fplace Tryd.prog 127 = some [(0, 1), (1, 1)] := by kernel_rfl
@[simp] theorem tk_128 : tk Tryd.prog 128 = .struct := by kernel_rfl
@[simp] theorem tsz_128 : tsz Tryd.prog 128 = some 2 := by kernel_rfl
@[simp] theorem tzero_128 : tzero Tryd.prog 128 = some ([.lit (.slice none 0 0), .lit (.slice none 0 0)]) := by kernel_rfl
@[simp] theorem tbytes_128 : tbytes Tryd.prog 128 = some 48 := by kernel_rfl
@[simp] theorem tzeroD_128 : tzeroD Tryd.prog 128 = some (.agg ([.list [], .list []])) := by kernel_rfl
@[simp] theorem foff_128_0 : foff Tryd.prog 128 0 = some 0 := by kernel_rfl
@[simp] theorem ftyp_128_0 : ftyp Tryd.prog 128 0 = some 126 := by kernel_rfl
@[simp] theorem foff_128_1 : foff Tryd.prog 128 1 = some 1 := by kernel_rfl
@[simp] theorem ftyp_128_1 : ftyp Tryd.prog 128 1 = some 126 := by kernel_rfl
@[simp] theorem fplace_128 : fplace Tryd.prog 128 = some [(0, 1), (1, 1)] := by kernel_rfl
@[simp] theorem tk_145 : tk Tryd.prog 145 = .func := by kernel_rfl
@[simp] theorem tsz_145 : tsz Tryd.prog 145 = some 1 := by kernel_rfl
@[simp] theorem tk_157 : tk Tryd.prog 157 = .func := by kernel_rfl
@[simp] theorem tsz_157 : tsz Tryd.prog 157 = some 1 := by kernel_rfl
@[simp] theorem tk_160 : tk Tryd.prog 160 = .func := by kernel_rfl
@[simp] theorem tsz_160 : tsz Tryd.prog 160 = some 1 := by kernel_rfl
@[simp] theorem tk_176 : tk Tryd.prog 176 = .struct := by kernel_rfl
@[simp] theorem tsz_176 : tsz Tryd.prog 176 = some 2 := by kernel_rfl
@[simp] theorem tzero_176 : tzero Tryd.prog 176 = some ([.d (.str []), .d (.int .i64 0)]) := by kernel_rfl
@[simp] theorem tbytes_176 : tbytes Tryd.prog 176 = some 24 := by kernel_rfl
@[simp] theorem tzeroD_176 : tzeroD Tryd.prog 176 = some (.agg ([.str [], .int .i64 0])) := by kernel_rfl
@[simp] theorem foff_176_0 : foff Tryd.prog 176 0 = some 0 := by kernel_rfl
@[simp] theorem ftyp_176_0 : ftyp Tryd.prog 176 0 = some 9 := by kernel_rfl
@[simp] theorem foff_176_1 : foff Tryd.prog 176 1 = some 1 := by kernel_rfl
@[simp] theorem ftyp_176_1 : ftyp Tryd.prog 176 1 = some 2 := by kernel_rfl
@[simp] theorem fplace_176 : fplace Tryd.prog 176 = some [(0, 1), (1, 1)] := by kernel_rfl
@[simp] theorem flat_176 : flatStruct Tryd.prog 176 = some [.str, .int .i64] := by kernel_rfl
@[simp] theorem tk_177 : tk Tryd.prog 177 = .slice 176 := by kernel_rfl
@[simp] theorem tsz_177 : tsz Tryd.prog 177 = some 1 := by kernel_rfl
@[simp] theorem tzero_177 : tzero Tryd.prog 177 = some ([.lit (.slice none 0 0)]) := by kernel_rfl
@[simp] theorem tbytes_177 : tbytes Tryd.prog 177 = some 24 := by kernel_rfl
@[simp] theorem tzeroD_177 : tzeroD Tryd.prog 177 = some (.list []) := by kernel_rfl
@[simp] theorem srcTy_177 : srcTy Tryd.prog 177 = true := by kernel_rfl
@[simp] theorem tk_179 : tk Tryd.prog 179 = .struct := by kernel_rfl
@[simp] theorem tsz_179 : tsz Tryd.prog 179 = some 9 := by kernel_rfl
@[simp] theorem tzero_179 : tzero Tryd.prog 179 = some ([.d (.int .i64 0), .d (.str []), .d (.int .i64 0), .d (.int .i64 0), .d (.int .i64 0), .d (.int .i64 0), .d (.bool false), .d (.int .i64 0), .d (.int .i64 0)]) := by kernel_rfl
@[simp] theorem tbytes_179 : tbytes Tryd.prog 179 = some 80 := by kernel_rfl
@[simp] theorem tzeroD_179 : tzeroD Tryd.prog 179 = some (.agg ([.int .i64 0, .str [], .int .i64 0, .int .i64 0, .int .i64 0, .int .i64 0, .bool false, .int .i64 0, .int .i64 0])) := by kernel_rfl
@[simp] theorem foff_179_0 : foff Tryd.prog 179 0 = some 0 := by kernel_rfl
@[simp] theorem ftyp_179_0 : ftyp Tryd.prog 179 0 = some 29 := by kernel_rfl
@[simp] theorem foff_179_1 : foff Tryd.prog 179 1 = some 5 := by kernel_rfl
@[simp] theorem ftyp_179_1 : ftyp Tryd.prog 179 1 = some 3 := by kernel_rfl
@[simp] theorem foff_179_2 : foff Tryd.prog 179 2 = some 6 := by kernel_rfl
@[simp] theorem ftyp_179_2 : ftyp Tryd.prog 179 2 = some 4 := by kernel_rfl
@[simp] theorem foff_179_3 : foff Tryd.prog 179 3 = some 7 := by kernel_rfl
@[simp] theorem ftyp_179_3 : ftyp Tryd.prog 179 3 = some 2 := by kernel_rfl
@[simp] theorem foff_179_4 : foff Tryd.prog 179 4 = some 8 := by kernel_rfl
@[simp] theorem ftyp_179_4 : ftyp Tryd.prog 179 4 = some 2 := by kernel_rfl
@[simp] theorem fplace_179 : fplace Tryd.prog 179 = some [(0, 5), (5, 1), (6, 1), (7, 1), (8, 1)] := by kernel_rfl
@[simp] theorem flat_179 : flatStruct Tryd.prog 179 = some [.int .i64, .str, .int .i64, .int .i64, .int .i64, .int .i64, .bool, .int .i64, .int .i64] := by kernel_rfl
@[simp] theorem tk_180 : tk Tryd.prog 180 = .struct := by kernel_rfl
@[simp] theorem tsz_180 : tsz Tryd.prog 180 = some 9 := by kernel_rfl
@[simp] theorem tzero_180 : tzero Tryd.prog 180 = some ([.d (.int .i64 0), .d (.str []), .d (.int .i64 0), .d (.int .i64 0), .d (.int .i64 0), .d (.int .i64 0), .d (.bool false), .d (.int .i64 0), .d (.int .i64 0)]) := by kernel_rfl
@[simp] theorem tbytes_180 : tbytes Tryd.prog 180 = some 80 := by kernel_rfl
@[simp] theorem tzeroD_180 : tzeroD Tryd.prog 180 = some (.agg ([.int .i64 0, .str [], .int .i64 0, .int .i64 0, .int .i64 0, .int .i64 0, .bool false, .int .i64 0, .int .i64 0])) := by kernel_rfl
@[simp] theorem foff_180_0 : foff Tryd.prog 180 0 = some 0 := by kernel_rfl
@[simp] theorem ftyp_180_0 : ftyp Tryd.prog 180 0 = some 29 := by kernel_rfl
@[simp] theorem foff_180_1 : foff Tryd.prog 180 1 = some 5 := by kernel_rfl
@[simp] theorem ftyp_180_1 : ftyp Tryd.prog 180 1 = some 3 := by kernel_rfl
@[simp] theorem foff_180_2 : foff Tryd.prog 180 2 = some 6 := by kernel_rfl
@[simp] theorem ftyp_180_2 : ftyp Tryd.prog 180 2 = some 4 := by kernel_rfl
@[simp] theorem foff_180_3 : foff Tryd.prog 180 3 = some 7 := by kernel_rfl
@[simp] theorem ftyp_180_3 : ftyp Tryd.prog 180 3 = some 2 := by kernel_rfl
@[simp] theorem foff_180_4 : foff Tryd.prog 180 4 = some 8 := by kernel_rfl
@[simp] theorem ftyp_180_4 : ftyp Tryd.prog 180 4 = some 2 := by kernel_rfl
@[simp] theorem fplace_180 : fplace Tryd.prog 180 = some [(0, 5), (5, 1), (6, 1), (7, 1), (8, 1)] := by kernel_rfl
@[simp] theorem flat_180 : flatStruct Tryd.prog 180 = some [.int .i64, .str, .int .i64, .int .i64, .int .i64, .int .i64, .bool, .int .i64, .int .i64] := by kernel_rfl
@[simp] theorem tk_186 : tk Tryd.prog 186 = .iface := by kernel_rfl
@[simp] theorem tsz_186 : tsz Tryd.prog 186 = some 1 := by kernel_rfl
@[simp] theorem tk_187 : tk Tryd.prog 187 = .iface := by kernel_rfl
@[simp] theorem tsz_187 : tsz Tryd.prog 187 = some 1 := by kernel_rfl
@[simp] theorem tk_193 : tk Tryd.prog 193 = .int .u32 := by kernel_rfl
@[simp] theorem tsz_193 : tsz Tryd.prog 193 = some 1 := by kernel_rfl
@[simp] theorem tzero_193 : tzero Tryd.prog 193 = some ([.d (.int .u32 0)]) := by kernel_rfl
@[simp] theorem tbytes_193 : tbytes Tryd.prog 193 = some 4 := by kernel_rfl
@[simp] theorem tzeroD_193 : tzeroD Tryd.prog 193 = some (.int .u32 0) := by kernel_rfl
@[simp] theorem tk_196 : tk Tryd.prog 196 = .int .u64 := by kernel_rfl
@[simp] theorem tsz_196 : tsz Tryd.prog 196 = some 1 := by kernel_rfl
@[simp] theorem tzero_196 : tzero Tryd.prog 196 = some ([.d (.int .u64 0)]) := by kernel_rfl
@[simp] theorem tbytes_196 : tbytes Tryd.prog 196 = some 8 := by kernel_rfl
@[simp] theorem tzeroD_196 : tzeroD Tryd.prog 196 = some (.int .u64 0) := by kernel_rfl
@[simp] theorem tk_203 : tk Tryd.prog 203 = .arr 256 5 := by kernel_rfl
@[simp] theorem tsz_203 : tsz Tryd.prog 203 = some 256 := by kernel_rfl
@[simp] theorem tzero_203 : tzero Tryd.prog 203 = some (List.replicate 256 (.d (.int .u8 0))) := by kernel_rfl
@[simp] theorem tbytes_203 : tbytes Tryd.prog 203 = some 256 := by kernel_rfl
@[simp] theorem tzeroD_203 : tzeroD Tryd.prog 203 = some (.agg (List.replicate 256 (.int .u8 0))) := by kernel_rfl
@[simp] theorem fplace_203 : fplace Tryd.prog 203 = none := by kernel_rfl
@[simp] theorem tk_217 : tk Tryd.prog 217 = .ptr 243 := by kernel_rfl
@[simp] theorem tsz_217 : tsz Tryd.prog 217 = some 1 := by kernel_rfl
@[simp] theorem tk_218 : tk Tryd.prog 218 = .slice 222 := by kernel_rfl
@[simp] theorem tsz_218 : tsz Tryd.prog 218 = some 1 := by kernel_rfl
@[simp] theorem tzero_218 : tzero Tryd.prog 218 = some ([.lit (.slice none 0 0)]) := by kernel_rfl
@[simp] theorem tbytes_218 : tbytes Tryd.prog 218 = some 24 := by kernel_rfl
@[simp] theorem tzeroD_218 : tzeroD Tryd.prog 218 = some (.list []) := by kernel_rfl
@[simp] theorem srcTy_218 : srcTy Tryd.prog 218 = true := by kernel_rfl
@[simp] theorem tk_221 : tk Tryd.prog 221 = .struct := by kernel_rfl
@[simp] theorem tsz_221 : tsz Tryd.prog 221 = some 5 := by kernel_rfl
@[simp] theorem tzero_221 : tzero Tryd.prog 221 = some ([.d (.int .i64 0), .d (.str []), .d (.str []), .d (.str []), .d (.int .i64 0)]) := by kernel_rfl
@[simp] theorem tbytes_221 : tbytes Tryd.prog 221 = some 64 := by kernel_rfl
@[simp] theorem tzeroD_221 : tzeroD Tryd.prog 221 = some (.agg ([.int .i64 0, .str [], .str [], .str [], .int .i64 0])) := by kernel_rfl
@[simp] theorem foff_221_0 : foff Tryd.prog 221 0 = some 0 := by kernel_rfl
@[simp] theorem ftyp_221_0 : ftyp Tryd.prog 221 0 = some 3 := by kernel_rfl
@[simp] theorem foff_221_1 : foff Tryd.prog 221 1 = some 1 := by kernel_rfl
@[simp] theorem ftyp_221_1 : ftyp Tryd.prog 221 1 = some 9 := by kernel_rfl
@[simp] theorem foff_221_2 : foff Tryd.prog 221 2 = some 2 := by kernel_rfl
@[simp] theorem ftyp_221_2 : ftyp Tryd.prog 221 2 = some 9 := by kernel_rfl
@[simp] theorem foff_221_3 : foff Tryd.prog 221 3 = some 3 := by kernel_rfl
@[simp] theorem ftyp_221_3 : ftyp Tryd.prog 221 3 = some 9 := by kernel_rfl
@[simp] theorem foff_221_4 : foff Tryd.prog 221 4 = some 4 := by kernel_rfl
@[simp] theorem ftyp_221_4 : ftyp Tryd.prog 221 4 = some 3 := by kernel_rfl
@[simp] theorem fplace_221 : fplace Tryd.prog 221 = some [(0, 1), (1, 1), (2, 1), (3, 1), (4, 1)] := by kernel_rfl
@[simp] theorem flat_221 : flatStruct Tryd.prog 221 = some [.int .i64, .str, .str, .str, .int .i64] := by kernel_rfl
@[simp] theorem tk_222 : tk Tryd.prog 222 = .struct := by kernel_rfl
@[simp] theorem tsz_222 : tsz Tryd.prog 222 = some 5 := by kernel_rfl
@[simp] theorem tzero_222 : tzero Tryd.prog 222 = some ([.d (.int .i64 0), .d (.str []), .d (.str []), .d (.str []), .d (.int .i64 0)]) := by kernel_rfl
@[simp] theorem tbytes_222 : tbytes Tryd.prog 222 = some 64 := by kernel_rfl
@[simp] theorem tzeroD_222 : tzeroD Tryd.prog 222 = some (.agg ([.int .i64 0, .str [], .str [], .str [], .int .i64 0])) := by kernel_rfl
@[simp] theorem foff_222_0 : foff Tryd.prog 222 0 = some 0 := by kernel_rfl
@[simp] theorem ftyp_222_0 : ftyp Tryd.prog 222 0 = some 3 := by kernel_rfl
@[simp] theorem foff_222_1 : foff Tryd.prog 222 1 = some 1 := by kernel_rfl
@[simp] theorem ftyp_222_1 : ftyp Tryd.prog 222 1 = some 9 := by kernel_rfl
@[simp] theorem foff_222_2 : foff Tryd.prog 222 2 = some 2 := by kernel_rfl
@[simp] theorem ftyp_222_2 : ftyp Tryd.prog 222 2 = some 9 := by kernel_rfl
@[simp] theorem foff_222_3 : foff Tryd.prog 222 3 = some 3 := by kernel_rfl
@[simp] theorem ftyp_222_3 : ftyp Tryd.prog 222 3 = some 9 := by kernel_rfl
@[simp] theorem foff_222_4 : foff Tryd.prog 222 4 = some 4 := by kernel_rfl
@[simp] theorem ftyp_222_4 : ftyp Tryd.prog 222 4 = some 3 := by kernel_rfl
@[simp] theorem fplace_222 : fplace Tryd.prog 222 = some [(0, 1), (1, 1), (2, 1), (3, 1), (4, 1)] := by kernel_rfl
@[simp] theorem flat_222 : flatStruct Tryd.prog 222 = some [.int .i64, .str, .str, .str, .int .i64] := by kernel_rfl
@[simp] theorem tk_223 : tk Tryd.prog 223 = .func := by kernel_rfl
@[simp] theorem tsz_223 : tsz Tryd.prog 223 = some 1 := by kernel_rfl
@[simp] theorem tk_240 : tk Tryd.prog 240 = .slice 246 := by kernel_rfl
@[simp] theorem tsz_240 : tsz Tryd.prog 240 = some 1 := by kernel_rfl
@[simp] theorem tzero_240 : tzero Tryd.prog 240 = some ([.lit (.slice none 0 0)]) := by kernel_rfl
@[simp] theorem tbytes_240 : tbytes Tryd.prog 240 = some 24 := by kernel_rfl
@[simp] theorem tzeroD_240 : tzeroD Tryd.prog 240 = some (.list []) := by kernel_rfl
@[simp] theorem srcTy_240 : srcTy Tryd.prog 240 = true := by kernel_rfl
@[simp] theorem tk_241 : tk Tryd.prog 241 = .slice 249 := by kernel_rfl
@[simp] theorem tsz_241 : tsz Tryd.prog 241 = some 1 := by kernel_rfl
@[simp] theorem tzero_241 : tzero Tryd.prog 241 = some ([.lit (.slice none 0 0)]) := by kernel_rfl
@[simp] theorem tbytes_241 : tbytes Tryd.prog 241 = some 24 := by kernel_rfl
@[simp] theorem tzeroD_241 : tzeroD Tryd.prog 241 = some (.list []) := by kernel_rfl
@[simp] theorem srcTy_241 : srcTy Tryd.prog 241 = true := by kernel_rfl
@[simp] theorem tk_242 : tk Tryd.prog 242 = .struct := by kernel_rfl
@[simp] theorem tsz_242 : tsz Tryd.prog 242 = some 3 := by kernel_rfl
@[simp] theorem tzero_242 : tzero Tryd.prog 242 = some ([.lit (.slice none 0 0), .lit (.slice none 0 0), .d (.int .i64 0)]) := by kernel_rfl
@[simp] theorem tbytes_242 : tbytes Tryd.prog 242 = some 56 := by kernel_rfl
@[simp] theorem tzeroD_242 : tzeroD Tryd.prog 242 = some (.agg ([.list [], .list [], .int .i64 0])) := by kernel_rfl
@[simp] theorem foff_242_0 : foff Tryd.prog 242 0 = some 0 := by kernel_rfl
@[simp] theorem ftyp_242_0 : ftyp Tryd.prog 242 0 = some 240 := by kernel_rfl
@[simp] theorem foff_242_1 : foff Tryd.prog 242 1 = some 1 := by kernel_rfl
@[simp] theorem ftyp_242_1 : ftyp Tryd.prog 242 1 = some 241 := by kernel_rfl
@[simp] theorem foff_242_2 : foff Tryd.prog 242 2 = some 2 := by kernel_rfl
@[simp] theorem ftyp_242_2 : ftyp Tryd.prog 242 2 = some 3 := by kernel_rfl
@[simp] theorem fplace_242 : fplace Tryd.prog 242 = some [(0, 1), (1, 1), (2, 1)] := by kernel_rfl
@[simp] theorem tk_243 : tk Tryd.prog 243 = .struct := by kernel_rfl
@[simp] theorem tsz_243 : tsz Tryd.prog 243 = some 3 := by kernel_rfl
@[simp] theorem tzero_243 : tzero Tryd.prog 243 = some ([.lit (.slice none 0 0), .lit (.slice none 0 0), .d (.int .i64 0)]) := by kernel_rfl
@[simp] theorem tbytes_243 : tbytes Tryd.prog 243 = some 56 := by kernel_rfl
@[simp] theorem tzeroD_243 : tzeroD Tryd.prog 243 = some (.agg ([.list [], .list [], .int .i64 0])) := by kernel_rfl
@[simp] theorem foff_243_0 : foff Tryd.prog 243 0 = some 0 := by kernel_rfl
@[simp] theorem ftyp_243_0 : ftyp Tryd.prog 243 0 = some 240 := by kernel_rfl
@[simp] theorem foff_243_1 : foff Tryd.prog 243 1 = some 1 := by kernel_rfl
@[simp] theorem ftyp_243_1 : ftyp Tryd.prog 243 1 = some 241 := by kernel_rfl
@[simp] theorem foff_243_2 : foff Tryd.prog 243 2 = some 2 := by kernel_rfl
@[simp] theorem ftyp_243_2 : ftyp Tryd.prog 243 2 = some 3 := by kernel_rfl
@[simp] theorem fplace_243 : fplace Tryd.prog 243 = some [(0, 1), (1, 1), (2, 1)] := by kernel_rfl
@[simp] theorem tk_244 : tk Tryd.prog 244 = .int .u16 := by kernel_rfl
@[simp] theorem tsz_244 : tsz Tryd.prog 244 = some 1 := by kernel_rfl
@[simp] theorem tzero_244 : tzero Tryd.prog 244 = some ([.d (.int .u16 0)]) := by kernel_rfl
@[simp] theorem tbytes_244 : tbytes Tryd.prog 244 = some 2 := by kernel_rfl
@[simp] theorem tzeroD_244 : tzeroD Tryd.prog 244 = some (.int .u16 0) := by kernel_rfl
@[simp] theorem tk_245 : tk Tryd.prog 245 = .struct := by kernel_rfl
@[simp] theorem tsz_245 : tsz Tryd.prog 245 = some 3 := by kernel_rfl
@[simp] theorem tzero_245 : tzero Tryd.prog 245 = some ([.d (.int .u16 0), .d (.int .u16 0), .d (.int .u16 0)]) := by kernel_rfl
@[simp] theorem tbytes_245 : tbytes Tryd.prog 245 = some 6 := by kernel_rfl
@[simp] theorem tzeroD_245 : tzeroD Tryd.prog 245 = some (.agg ([.int .u16 0, .int .u16 0, .int .u16 0])) := by kernel_rfl
@[simp] theorem foff_245_0 : foff Tryd.prog 245 0 = some 0 := by kernel_rfl
@[simp] theorem ftyp_245_0 : ftyp Tryd.prog 245 0 = some 244 := by kernel_rfl
@[simp] theorem foff_245_1 : foff Tryd.prog 245 1 = some 1 := by kernel_rfl
@[simp] theorem ftyp_245_1 : ftyp Tryd.prog 245 1 = some 244 := by kernel_rfl
@[simp] theorem foff_245_2 : foff Tryd.prog 245 2 = some 2 := by kernel_rfl
@[simp] theorem ftyp_245_2 : ftyp Tryd.prog 245 2 = some 244 := by kernel_rfl
@[simp] theorem fplace_245 : fplace Tryd.prog 245 = some [(0, 1), (1, 1), (2, 1)] := by kernel_rfl
@[simp] theorem flat_245 : flatStruct Tryd.prog 245 = some [.int .u16, .int .u16, .int .u16] := by kernel_rfl
@[simp] theorem tk_246 : tk Tryd.prog 246 = .struct := by kernel_rfl
@[simp] theorem tsz_246 : tsz Tryd.prog 246 = some 3 := by kernel_rfl
@[simp] theorem tzero_246 : tzero Tryd.prog 246 = some ([.d (.int .u16 0), .d (.int .u16 0), .d (.int .u16 0)]) := by kernel_rfl
@[simp] theorem tbytes_246 : tbytes Tryd.prog 246 = some 6 := by kernel_rfl
@[simp] theorem tzeroD_246 : tzeroD Tryd.prog 246 = some (.agg ([.int .u16 0, .int .u16 0, .int .u16 0])) := by kernel_rfl
@[simp] theorem foff_246_0 : foff Tryd.prog 246 0 = some 0 := by kernel_rfl
@[simp] theorem ftyp_246_0 : ftyp Tryd.prog 246 0 = some 244 := by kernel_rfl
@[simp] theorem foff_246_1 : foff Tryd.prog 246 1 = some 1 := by kernel_rfl
@[simp] theorem ftyp_246_1 : ftyp Tryd.prog 246 1 = some 244 := by kernel_rfl
@[simp] theorem foff_246_2 : foff Tryd.prog 246 2 = some 2 := by kernel_rfl
@[simp] theorem ftyp_246_2 : ftyp Tryd.prog 246 2 = some 244 := by kernel_rfl
@[simp] theorem fplace_246 : fplace Tryd.prog 246 = some [(0, 1), (1, 1), (2, 1)] := by kernel_rfl
@[simp] theorem flat_246 : flatStruct Tryd.prog 246 = some [.int .u16, .int .u16, .int .u16] := by kernel_rfl
@[simp] theorem tk_248 : tk Tryd.prog 248 = .struct := by kernel_rfl
@[simp] theorem tsz_248 : tsz Tryd.prog 248 = some 3 := by kernel_rfl
@[simp] theorem tzero_248 : tzero Tryd.prog 248 = some ([.d (.int .u32 0), .d (.int .u32 0), .d (.int .u32 0)]) := by kernel_rfl
@[simp] theorem tbytes_248 : tbytes Tryd.prog 248 = some 12 := by kernel_rfl
@[simp] theorem tzeroD_248 : tzeroD Tryd.prog 248 = some (.agg ([.int .u32 0, .int .u32 0, .int .u32 0])) := by kernel_rfl
@[simp] theorem foff_248_0 : foff Tryd.prog 248 0 = some 0 := by kernel_rfl
@[simp] theorem ftyp_248_0 : ftyp Tryd.prog 248 0 = some 193 := by kernel_rfl
@[simp] theorem foff_248_1 : foff Tryd.prog 248 1 = some 1 := by kernel_rfl
@[simp] theorem ftyp_248_1 : ftyp Tryd.prog 248 1 = some 193 := by kernel_rfl
@[simp] theorem foff_248_2 : foff Tryd.prog 248 2 = some 2 := by kernel_rfl
@[simp] theorem ftyp_248_2 : ftyp Tryd.prog 248 2 = some 193 := by kernel_rfl
@[simp] theorem fplace_248 : fplace Tryd.prog 248 = some [(0, 1), (1, 1), (2, 1)] := by kernel_rfl
@[simp] theorem flat_248 : flatStruct Tryd.prog 248 = some [.int .u32, .int .u32, .int .u32] := by kernel_rfl
@[simp] theorem tk_249 : tk Tryd.prog 249 = .struct := by kernel_rfl
@[simp] theorem tsz_249 : tsz Tryd.prog 249 = some 3 := by kernel_rfl
@[simp] theorem tzero_249 : tzero Tryd.prog 249 = some ([.d (.int .u32 0), .d (.int .u32 0), .d (.int .u32 0)]) := by kernel_rfl
@[simp] theorem tbytes_249 : tbytes Tryd.prog 249 = some 12 := by kernel_rfl
@[simp] theorem tzeroD_249 : tzeroD Tryd.prog 249 = some (.agg ([.int .u32 0, .int .u32 0, .int .u32 0])) := by kernel_rfl
@[simp] theorem foff_249_0 : foff Tryd.prog 249 0 = some 0 := by kernel_rfl
@[simp] theorem ftyp_249_0 : ftyp Tryd.prog 249 0 = some 193 := by kernel_rfl
@[simp] theorem foff_249_1 : foff Tryd.prog 249 1 = some 1 := by kernel_rfl
@[simp] theorem ftyp_249_1 : ftyp Tryd.prog 249 1 = some 193 := by kernel_rfl
@[simp] theorem foff_249_2 : foff Tryd.prog 249 2 = some 2 := by kernel_rfl
@[simp] theorem ftyp_249_2 : ftyp Tryd.prog 249 2 = some 193 := by kernel_rfl
@[simp] theorem fplace_249 : fplace Tryd.prog 249 = some [(0, 1), (1, 1), (2, 1)] := by kernel_rfl
@[simp] theorem flat_249 : flatStruct Tryd.prog 249 = some [.int .u32, .int .u32, .int .u32] := by kernel_rfl
@[simp] theorem tk_251 : tk Tryd.prog 251 = .slice 37 := by kernel_rfl
@[simp] theorem tsz_251 : tsz Tryd.prog 251 = some 1 := by kernel_rfl
@[simp] theorem tzero_251 : tzero Tryd.prog 251 = some ([.lit (.slice none 0 0)]) := by kernel_rfl
@[simp] theorem tbytes_251 : tbytes Tryd.prog 251 = some 24 := by kernel_rfl
@[simp] theorem tzeroD_251 : tzeroD Tryd.prog 251 = some (.list []) := by kernel_rfl
@[simp] theorem srcTy_251 : srcTy Tryd.prog 251 = true := by kernel_rfl
@[simp] theorem tk_255 : tk Tryd.prog 255 = .struct := by kernel_rfl
@[simp] theorem tsz_255 : tsz Tryd.prog 255 = some 3 := by kernel_rfl
@[simp] theorem tzero_255 : tzero Tryd.prog 255 = some ([.d (.str []), .d (.str []), .lit .nilIface]) := by kernel_rfl
@[simp] theorem foff_255_0 : foff Tryd.prog 255 0 = some 0 := by kernel_rfl
@[simp] theorem ftyp_255_0 : ftyp Tryd.prog 255 0 = some 9 := by kernel_rfl
@[simp] theorem foff_255_1 : foff Tryd.prog 255 1 = some 1 := by kernel_rfl
@[simp] theorem ftyp_255_1 : ftyp Tryd.prog 255 1 = some 9 := by kernel_rfl
@[simp] theorem foff_255_2 : foff Tryd.prog 255 2 = some 2 := by kernel_rfl
@[simp] theorem ftyp_255_2 : ftyp Tryd.prog 255 2 = some 187 := by kernel_rfl
@[simp] theorem fplace_255 : fplace Tryd.prog 255 = some [(0, 1), (1, 1), (2, 1)] := by kernel_rfl
@[simp] theorem tk_256 : tk Tryd.prog 256 = .struct := by kernel_rfl
@[simp] theorem tsz_256 : tsz Tryd.prog 256 = some 3 := by kernel_rfl
@[simp] theorem tzero_256 : tzero Tryd.prog 256 = some ([.d (.str []), .d (.str []), .lit .nilIface]) := by kernel_rfl
@[simp] theorem foff_256_0 : foff Tryd.prog 256 0 = some 0 := by kernel_rfl
@[simp] theorem ftyp_256_0 : ftyp Tryd.prog 256 0 = some 9 := by kernel_rfl
@[simp] theorem foff_256_1 : foff Tryd.prog 256 1 = some 1 := by kernel_rfl
@[simp] theorem ftyp_256_1 : ftyp Tryd.prog 256 1 = some 9 := by kernel_rfl
@[simp] theorem foff_256_2 : foff Tryd.prog 256 2 = some 2 := by kernel_rfl
@[simp] theorem ftyp_256_2 : ftyp Tryd.prog 256 2 = some 187 := by kernel_rfl
@[simp] theorem fplace_256 : fplace Tryd.prog 256 = some [(0, 1), (1, 1), (2, 1)] := by kernel_rfl
@[simp] theorem tk_258 : tk Tryd.prog 258 = .ptr 246 := by kernel_rfl
@[simp] theorem tsz_258 : tsz Tryd.prog 258 = some 1 := by kernel_rfl
@[simp] theorem tk_259 : tk Tryd.prog 259 = .ptr 249 := by kernel_rfl
@[simp] theorem tsz_259 : tsz Tryd.prog 259 = some 1 := by kernel_rfl
@[simp] theorem tk_260 : tk Tryd.prog 260 = .ptr 5 := by kernel_rfl
@[simp] theorem tsz_260 : tsz Tryd.prog 260 = some 1 := by kernel_rfl
@[simp] theorem tk_264 : tk Tryd.prog 264 = .struct := by kernel_rfl
@[simp] theorem tsz_264 : tsz Tryd.prog 264 = some 4 := by kernel_rfl
@[simp] theorem tzero_264 : tzero Tryd.prog 264 = some ([.lit (.pointer none), .lit (.pointer none), .lit (.pointer none), .d (.str [])]) := by kernel_rfl
@[simp] theorem foff_264_0 : foff Tryd.prog 264 0 = some 0 := by kernel_rfl
@[simp] theorem ftyp_264_0 : ftyp Tryd.prog 264 0 = some 17 := by kernel_rfl
@[simp] theorem foff_264_1 : foff Tryd.prog 264 1 = some 1 := by kernel_rfl
@[simp] theorem ftyp_264_1 : ftyp Tryd.prog 264 1 = some 17 := by kernel_rfl
@[simp] theorem foff_264_2 : foff Tryd.prog 264 2 = some 2 := by kernel_rfl
@[simp] theorem ftyp_264_2 : ftyp Tryd.prog 264 2 = some 17 := by kernel_rfl
@[simp] theorem foff_264_3 : foff Tryd.prog 264 3 = some 3 := by kernel_rfl
@[simp] theorem ftyp_264_3 : ftyp Tryd.prog 264 3 = some 9 := by kernel_rfl
@[simp] theorem fplace_264 : fplace Tryd.prog 264 = some [(0, 1), (1, 1), (2, 1), (3, 1)] := by kernel_rfl
@[simp] theorem tk_265 : tk Tryd.prog 265 = .struct := by kernel_rfl
@[simp] theorem tsz_265 : tsz Tryd.prog 265 = some 4 := by kernel_rfl
@[simp] theorem tzero_265 : tzero Tryd.prog 265 = some ([.lit (.pointer none), .lit (.pointer none), .lit (.pointer none), .d (.str [])]) := by kernel_rfl
@[simp] theorem foff_265_0 : foff Tryd.prog 265 0 = some 0 := by kernel_rfl
@[simp] theorem ftyp_265_0 : ftyp Tryd.prog 265 0 = some 17 := by kernel_rfl
@[simp] theorem foff_265_1 : foff Tryd.prog 265 1 = some 1 := by kernel_rfl
@[simp] theorem ftyp_265_1 : ftyp Tryd.prog 265 1 = some 17 := by kernel_rfl
@[simp] theorem foff_265_2 : foff Tryd.prog 265 2 = some 2 := by kernel_rfl
@[simp] theorem ftyp_265_2 : ftyp Tryd.prog 265 2 = some 17 := by kernel_rfl
@[simp] theorem foff_265_3 : foff Tryd.prog 265 3 = some 3 := by kernel_rfl
@[simp] theorem ftyp_265_3 : ftyp Tryd.prog 265 3 = some 9 := by kernel_rfl
@[simp] theorem fplace_265 : fplace Tryd.prog 265 = some [(0, 1), (1, 1), (2, 1), (3, 1)] := by kernel_rfl
@[simp] theorem tk_266 : tk Tryd.prog 266 = .arr 0 16 := by kernel_rfl
@[simp] theorem tsz_266 : tsz Tryd.prog 266 = some 0 := by kernel_rfl
@[simp] theorem tzero_266 : tzero Tryd.prog 266 = some ([]) := by kernel_rfl
@[simp] theorem tbytes_266 : tbytes Tryd.prog 266 = some 0 := by kernel_rfl
@[simp] theorem tzeroD_266 : tzeroD Tryd.prog 266 = some (.agg ([])) := by kernel_rfl
@[simp] theorem fplace_266 : fplace Tryd.prog 266 = none := by kernel_rfl
@[simp] theorem tk_267 : tk Tryd.prog 267 = .struct := by kernel_rfl
@[simp] theorem tsz_267 : tsz Tryd.prog 267 = some 0 := by kernel_rfl
@[simp] theorem tzero_267 : tzero Tryd.prog 267 = some ([]) := by kernel_rfl
@[simp] theorem tbytes_267 : tbytes Tryd.prog 267 = some 0 := by kernel_rfl
@[simp] theorem tzeroD_267 : tzeroD Tryd.prog 267 = some (.agg ([])) := by kernel_rfl
@[simp] theorem fplace_267 : fplace Tryd.prog 267 = some [(0, 0)] := by kernel_rfl
@[simp] theorem tk_268 : tk Tryd.prog 268 = .struct := by kernel_rfl
@[simp] theorem tsz_268 : tsz Tryd.prog 268 = some 0 := by kernel_rfl
@[simp] theorem tzero_268 : tzero Tryd.prog 268 = some ([]) := by kernel_rfl
@[simp] theorem tbytes_268 : tbytes Tryd.prog 268 = some 0 := by kernel_rfl
@[simp] theorem tzeroD_268 : tzeroD Tryd.prog 268 = some (.agg ([])) := by kernel_rfl
@[simp] theorem fplace_268 : fplace Tryd.prog 268 = some [(0, 0)] := by kernel_rfl
@[simp] theorem tk_270 : tk Tryd.prog 270 = .int .u8 := by kernel_rfl
@[simp] theorem tsz_270 : tsz Tryd.prog 270 = some 1 := by kernel_rfl
@[simp] theorem tzero_270 : tzero Tryd.prog 270 = some ([.d (.int .u8 0)]) := by kernel_rfl
@[simp] theorem tbytes_270 : tbytes Tryd.prog 270 = some 1 := by kernel_rfl
@[simp] theorem tzeroD_270 : tzeroD Tryd.prog 270 = some (.int .u8 0) := by kernel_rfl
@[simp] theorem tk_271 : tk Tryd.prog 271 = .int .u8 := by kernel_rfl
@[simp] theorem tsz_271 : tsz Tryd.prog 271 = some 1 := by kernel_rfl
@[simp] theorem tzero_271 : tzero Tryd.prog 271 = some ([.d (.int .u8 0)]) := by kernel_rfl
@[simp] theorem tbytes_271 : tbytes Tryd.prog 271 = some 1 := by kernel_rfl
@[simp] theorem tzeroD_271 : tzeroD Tryd.prog 271 = some (.int .u8 0) := by kernel_rfl
@[simp] theorem tk_272 : tk Tryd.prog 272 = .func := by kernel_rfl
@[simp] theorem tsz_272 : tsz Tryd.prog 272 = some 1 := by kernel_rfl
@[simp] theorem tk_273 : tk Tryd.prog 273 = .int .i32 := by kernel_rfl
@[simp] theorem tsz_273 : tsz Tryd.prog 273 = some 1 := by kernel_rfl
@[simp] theorem tzero_273 : tzero Tryd.prog 273 = some ([.d (.int .i32 0)]) := by kernel_rfl
@[simp] theorem tbytes_273 : tbytes Tryd.prog 273 = some 4 := by kernel_rfl
@[simp] theorem tzeroD_273 : tzeroD Tryd.prog 273 = some (.int .i32 0) := by kernel_rfl
@[simp] theorem tk_274 : tk Tryd.prog 274 = .int .i32 := by kernel_rfl
@[simp] theorem tsz_274 : tsz Tryd.prog 274 = some 1 := by kernel_rfl
@[simp] theorem tzero_274 : tzero Tryd.prog 274 = some ([.d (.int .i32 0)]) := by kernel_rfl
@[simp] theorem tbytes_274 : tbytes Tryd.prog 274 = some 4 := by kernel_rfl
@[simp] theorem tzeroD_274 : tzeroD Tryd.prog 274 = some (.int .i32 0) := by kernel_rfl
@[simp] theorem tk_275 : tk Tryd.prog 275 = .struct := by kernel_rfl
@[simp] theorem tsz_275 : tsz Tryd.prog 275 = some 11 := by kernel_rfl
@[simp] theorem tzero_275 : tzero Tryd.prog 275 = some ([.d (.int .u64 0), .d (.int .u64 0), .d (.int .u32 0), .d (.int .u8 0), .d (.int .u8 0), .d (.int .u8 0), .d (.int .u8 0), .lit .nilFunc, .lit (.pointer none), .d (.int .i32 0), .d (.int .i32 0)]) := by kernel_rfl
@[simp] theorem foff_275_0 : foff Tryd.prog 275 0 = some 0 := by kernel_rfl
@[simp] theorem ftyp_275_0 : ftyp Tryd.prog 275 0 = some 12 := by kernel_rfl
@[simp] theorem foff_275_1 : foff Tryd.prog 275 1 = some 1 := by kernel_rfl
@[simp] theorem ftyp_275_1 : ftyp Tryd.prog 275 1 = some 12 := by kernel_rfl
@[simp] theorem foff_275_2 : foff Tryd.prog 275 2 = some 2 := by kernel_rfl
@[simp] theorem ftyp_275_2 : ftyp Tryd.prog 275 2 = some 193 := by kernel_rfl
@[simp] theorem foff_275_3 : foff Tryd.prog 275 3 = some 3 := by kernel_rfl
@[simp] theorem ftyp_275_3 : ftyp Tryd.prog 275 3 = some 270 := by kernel_rfl
@[simp] theorem foff_275_4 : foff Tryd.prog 275 4 = some 4 := by kernel_rfl
@[simp] theorem ftyp_275_4 : ftyp Tryd.prog 275 4 = some 5 := by kernel_rfl
@[simp] theorem foff_275_5 : foff Tryd.prog 275 5 = some 5 := by kernel_rfl
@[simp] theorem ftyp_275_5 : ftyp Tryd.prog 275 5 = some 5 := by kernel_rfl
@[simp] theorem foff_275_6 : foff Tryd.prog 275 6 = some 6 := by kernel_rfl
@[simp] theorem ftyp_275_6 : ftyp Tryd.prog 275 6 = some 271 := by kernel_rfl
@[simp] theorem foff_275_7 : foff Tryd.prog 275 7 = some 7 := by kernel_rfl
@[simp] theorem ftyp_275_7 : ftyp Tryd.prog 275 7 = some 272 := by kernel_rfl
@[simp] theorem foff_275_8 : foff Tryd.prog 275 8 = some 8 := by kernel_rfl
@[simp] theorem ftyp_275_8 : ftyp Tryd.prog 275 8 = some 260 := by kernel_rfl
@[simp] theorem foff_275_9 : foff Tryd.prog 275 9 = some 9 := by kernel_rfl
@[simp] theorem ftyp_275_9 : ftyp Tryd.prog 275 9 = some 273 := by kernel_rfl
@[simp] theorem foff_275_10 : foff Tryd.prog 275 10 = some 10 := by kernel_rfl
@[simp] theorem ftyp_275_10 : ftyp Tryd.prog 275 10 = some 274 := by kernel_rfl
@[simp] theorem fplace_275 : fplace Tryd.prog 275 = some [(0, 1), (1, 1), (2, 1), (3, 1), (4, 1), (5, 1), (6, 1), (7, 1), (8, 1), (9, 1), (10, 1)] := by kernel_rfl
@[simp] theorem tk_276 : tk Tryd.prog 276 = .struct := by kernel_rfl
@[simp] theorem tsz_276 : tsz Tryd.prog 276 = some 11 := by kernel_rfl
@[simp] theorem tzero_276 : tzero Tryd.prog 276 = some ([.d (.int .u64 0), .d (.int .u64 0), .d (.int .u32 0), .d (.int .u8 0), .d (.int .u8 0), .d (.int .u8 0), .d (.int .u8 0), .lit .nilFunc, .lit (.pointer none), .d (.int .i32 0), .d (.int .i32 0)]) := by kernel_rfl
@[simp] theorem foff_276_0 : foff Tryd.prog 276 0 = some 0 := by kernel_rfl
@[simp] theorem ftyp_276_0 : ftyp Tryd.prog 276 0 = some 12 := by kernel_rfl
@[simp] theorem foff_276_1 : foff Tryd.prog 276 1 = some 1 := by kernel_rfl
@[simp] theorem ftyp_276_1 : ftyp Tryd.prog 276 1 = some 12 := by kernel_rfl
@[simp] theorem foff_276_2 : foff Tryd.prog 276 2 = some 2 := by kernel_rfl
@[simp] theorem ftyp_276_2 : ftyp Tryd.prog 276 2 = some 193 := by kernel_rfl
@[simp] theorem foff_276_3 : foff Tryd.prog 276 3 = some 3 := by kernel_rfl
@[simp] theorem ftyp_276_3 : ftyp Tryd.prog 276 3 = some 270 := by kernel_rfl
@[simp] theorem foff_276_4 : foff Tryd.prog 276 4 = some 4 := by kernel_rfl
@[simp] theorem ftyp_276_4 : ftyp Tryd.prog 276 4 = some 5 := by kernel_rfl
@[simp] theorem foff_276_5 : foff Tryd.prog 276 5 = some 5 := by kernel_rfl
@[simp] theorem ftyp_276_5 : ftyp Tryd.prog 276 5 = some 5 := by kernel_rfl
@[simp] theorem foff_276_6 : foff Tryd.prog 276 6 = some 6 := by kernel_rfl
@[simp] theorem ftyp_276_6 : ftyp Tryd.prog 276 6 = some 271 := by kernel_rfl
@[simp] theorem foff_276_7 : foff Tryd.prog 276 7 = some 7 := by kernel_rfl
@[simp] theorem ftyp_276_7 : ftyp Tryd.prog 276 7 = some 272 := by kernel_rfl
@[simp] theorem foff_276_8 : foff Tryd.prog 276 8 = some 8 := by kernel_rfl
@[simp] theorem ftyp_276_8 : ftyp Tryd.prog 276 8 = some 260 := by kernel_rfl
@[simp] theorem foff_276_9 : foff Tryd.prog 276 9 = some 9 := by kernel_rfl
@[simp] theorem ftyp_276_9 : ftyp Tryd.prog 276 9 = some 273 := by kernel_rfl
@[simp] theorem foff_276_10 : foff Tryd.prog 276 10 = some 10 := by kernel_rfl
@[simp] theorem ftyp_276_10 : ftyp Tryd.prog 276 10 = some 274 := by kernel_rfl
@[simp] theorem fplace_276 : fplace Tryd.prog 276 = some [(0, 1), (1, 1), (2, 1), (3, 1), (4, 1), (5, 1), (6, 1), (7, 1), (8, 1), (9, 1), (10, 1)] := by kernel_rfl
@[simp] theorem tk_277 : tk Tryd.prog 277 = .struct := by kernel_rfl
@[simp] theorem tsz_277 : tsz Tryd.prog 277 = some 7 := by kernel_rfl
@[simp] theorem tzero_277 : tzero Tryd.prog 277 = some ([.d (.int .i64 0), .d (.int .i64 0), .d (.int .i64 0), .d (.int .i64 0), .d (.int .i64 0), .d (.int .i64 0), .d (.int .i64 0)]) := by kernel_rfl
@[simp] theorem tbytes_277 : tbytes Tryd.prog 277 = some 56 := by kernel_rfl
@[simp] theorem tzeroD_277 : tzeroD Tryd.prog 277 = some (.agg ([.int .i64 0, .int .i64 0, .int .i64 0, .int .i64 0, .int .i64 0, .int .i64 0, .int .i64 0])) := by kernel_rfl
@[simp] theorem foff_277_0 : foff Tryd.prog 277 0 = some 0 := by kernel_rfl
@[simp] theorem ftyp_277_0 : ftyp Tryd.prog 277 0 = some 3 := by kernel_rfl
@[simp] theorem foff_277_1 : foff Tryd.prog 277 1 = some 1 := by kernel_rfl
@[simp] theorem ftyp_277_1 : ftyp Tryd.prog 277 1 = some 3 := by kernel_rfl
@[simp] theorem foff_277_2 : foff Tryd.prog 277 2 = some 2 := by kernel_rfl
@[simp] theorem ftyp_277_2 : ftyp Tryd.prog 277 2 = some 2 := by kernel_rfl
@[simp] theorem foff_277_3 : foff Tryd.prog 277 3 = some 3 := by kernel_rfl
@[simp] theorem ftyp_277_3 : ftyp Tryd.prog 277 3 = some 2 := by kernel_rfl
@[simp] theorem foff_277_4 : foff Tryd.prog 277 4 = some 4 := by kernel_rfl
@[simp] theorem ftyp_277_4 : ftyp Tryd.prog 277 4 = some 3 := by kernel_rfl
@[simp] theorem foff_277_5 : foff Tryd.prog 277 5 = some 5 := by kernel_rfl
@[simp] theorem ftyp_277_5 : ftyp Tryd.prog 277 5 = some 2 := by kernel_rfl
@[simp] theorem foff_277_6 : foff Tryd.prog 277 6 = some 6 := by kernel_rfl
@[simp] theorem ftyp_277_6 : ftyp Tryd.prog 277 6 = some 2 := by kernel_rfl
@[simp] theorem fplace_277 : fplace Tryd.prog 277 = some [(0, 1), (1, 1), (2, 1), (3, 1), (4, 1), (5, 1), (6, 1)] := by kernel_rfl
@[simp] theorem flat_277 : flatStruct Tryd.prog 277 = some [.int .i64, .int .i64, .int .i64, .int .i64, .int .i64, .int .i64, .int .i64] := by kernel_rfl
@[simp] theorem tk_278 : tk Tryd.prog 278 = .struct := by kernel_rfl
@[simp] theorem tsz_278 : tsz Tryd.prog 278 = some 7 := by kernel_rfl
@[simp] theorem tzero_278 : tzero Tryd.prog 278 = some ([.d (.int .i64 0), .d (.int .i64 0), .d (.int .i64 0), .d (.int .i64 0), .d (.int .i64 0), .d (.int .i64 0), .d (.int .i64 0)]) := by kernel_rfl
@[simp] theorem tbytes_278 : tbytes Tryd.prog 278 = some 56 := by kernel_rfl
@[simp] theorem tzeroD_278 : tzeroD Tryd.prog 278 = some (.agg ([.int .i64 0, .int .i64 0, .int .i64 0, .int .i64 0, .int .i64 0, .int .i64 0, .int .i64 0])) := by kernel_rfl
@[simp] theorem foff_278_0 : foff Tryd.prog 278 0 = some 0 := by kernel_rfl
@[simp] theorem ftyp_278_0 : ftyp Tryd.prog 278 0 = some 3 := by kernel_rfl
@[simp] theorem foff_278_1 : foff Tryd.prog 278 1 = some 1 := by kernel_rfl
@[simp] theorem ftyp_278_1 : ftyp Tryd.prog 278 1 = some 3 := by kernel_rfl
@[simp] theorem foff_278_2 : foff Tryd.prog 278 2 = some 2 := by kernel_rfl
@[simp] theorem ftyp_278_2 : ftyp Tryd.prog 278 2 = some 2 := by kernel_rfl
@[simp] theorem foff_278_3 : foff Tryd.prog 278 3 = some 3 := by kernel_rfl
@[simp] theorem ftyp_278_3 : ftyp Tryd.prog 278 3 = some 2 := by kernel_rfl
@[simp] theorem foff_278_4 : foff Tryd.prog 278 4 = some 4 := by kernel_rfl
@[simp] theorem ftyp_278_4 : ftyp Tryd.prog 278 4 = some 3 := by kernel_rfl
@[simp] theorem foff_278_5 : foff Tryd.prog 278 5 = some 5 := by kernel_rfl
@[simp] theorem ftyp_278_5 : ftyp Tryd.prog 278 5 = some 2 := by kernel_rfl
@[simp] theorem foff_278_6 : foff Tryd.prog 278 6 = some 6 := by kernel_rfl
@[simp] theorem ftyp_278_6 : ftyp Tryd.prog 278 6 = some 2 := by kernel_rfl
@[simp] theorem fplace_278 : fplace Tryd.prog 278 = some [(0, 1), (1, 1), (2, 1), (3, 1), (4, 1), (5, 1), (6, 1)] := by kernel_rfl
@[simp] theorem flat_278 : flatStruct Tryd.prog 278 = some [.int .i64, .int .i64, .int .i64, .int .i64, .int .i64, .int .i64, .int .i64] := by kernel_rfl
end Go.Am
end
section
namespace Go.Am
open Go
def idxO : List D → Option D
  | [.str s, .str t] => if s.length < 4294967281 then some (.int .i64 (Go.Lib.index s t)) else none
  | _ => none
def ibO : List D → Option D
  | [.str s, .int .u8 c] => some (.int .i64 (Go.Lib.indexByte s c.toNat.toUInt8))
  | _ => none
def hpO : List D → Option D
  | [.str s, .str p] => some (.bool (Go.Lib.hasPrefix s p))
  | _ => none
attribute [simp] idxO.eq_1 ibO.eq_1 hpO.eq_1
end Go.Am
end
section
namespace Go.Am
open Go
def splitO : List D → Option D
  | [.str s, .str t] => if s.length < 4294967281 ∧ 1 ≤ t.length then some (.list ((Go.Lib.split s t).map .str)) else none
  | _ => none
def I64' (n : Int) : Prop := -9223372036854775808 ≤ n ∧ n ≤ 9223372036854775807
instance (n : Int) : Decidable (I64' n) := inferInstanceAs (Decidable (_ ∧ _))
def fiO : List D → Option D
  | [.int .i64 n, .int .i64 b] => if b = 10 ∧ I64' n then some (.str (Go.Lib.itoa n)) else none
  | _ => none
def itO : List D → Option D
  | [.int .i64 n] => if I64' n then some (.str (Go.Lib.itoa n)) else none
  | _ => none
def piA (s : List UInt8) : AV := match Go.Lib.parseIntB 64 s with
  | .ok n => .tup [.d (.int .i64 n), .lit .nilIface]
  | .syntax => .tup [.d (.int .i64 0), .err]
  | .range => .tup [.d (.int .i64 (Go.Lib.intSat 64 s)), .err]
def piO : List AV → Option AV
  | [.d (.str s), .d (.int .i64 b), .d (.int .i64 z)] => if b = 10 ∧ z = 64 ∧ s.length ≤ 281474976710656 then some (piA s) else none
  | _ => none
def ffO (g : Nat) (c : Int) : List AV → Option AV
  | [.d (.str s), .fn f []] => if f = g ∧ s.length ≤ 4294967296 then some (.d (.list ((Go.Lib.goFieldsP (fun r => decide ((r : Int) = c)) ⟨s.toArray⟩).map fun x => .str x.data.toList))) else none
  | _ => none
attribute [simp] splitO.eq_1 fiO.eq_1 itO.eq_1 piO.eq_1 ffO.eq_1
end Go.Am
end
section
namespace Go.Am
open Go
section
variable {X : Ctx} {cl : CallFn} {md : Bool} {all : List Oper} {S : St}
@[simp] theorem dgstep_none {d : Option Tmp} {op : Op} {ty : TypeId} {pos : String} {af : Array Edge} : dgstep X cl md all S ⟨d, op, ty, pos, af, none⟩ = dstep X cl S ⟨d, op, ty, pos, af, none⟩ (stepv X.P S ⟨d, op, ty, pos, af, none⟩) := rfl
@[simp] theorem pOps_nil {js : List Nat} {i : Nat} {acc : List Stp} : pOps X md all js i [] S acc = some (revA acc []) := by rw [revA_eq, List.append_nil]; rfl
theorem pOps_cons {js : List Nat} {i : Nat} {o : Oper} {r : List Oper} {acc : List Stp} : pOps X md all js i (o :: r) S acc = if js.contains i = true then (match dgstep X (fun _ _ _ => none) md all S o with
      | some (S1, p) => pOps X md all js (i + 1) r S1 (p :: acc)
      | none => none) else pOps X md all js (i + 1) r (S.put o.dst false .junk) (⟨[], [], false, .junk⟩ :: acc) := by
  simp only [pOps]
  cases js.contains i <;> rfl
end
attribute [simp] pOps_cons dstep.eq_1 dstep.eq_2 dstep.eq_3 panE.eq_1 pEnd.eq_1 pEnd.eq_2 verSum.eq_1 verSum.eq_2 verSums.eq_1 verSums.eq_2 killM.eq_1 killM.eq_2 St.kill.eq_1 farE.eq_1 farE.eq_2 farJ.eq_1 farJ.eq_2
attribute [simp] el_frz el_back el_callK el_dcallK
section
variable {ε σ α : Type} {X : Ctx} {md : Bool} {nd : Nat × List (List Nat)} {S : St} {d : Option Nat} {all q : List Oper} {acc : List Stp} {k : Kt} {r : PR ε σ α} {f : α → σ → Option CRes} {g : ε → σ → Option CRes}
@[simp] theorem el_dcallG : dcallG X md nd S d all q acc k (r.el f g) = r.el (fun a s => dcallG X md nd S d all q acc k (f a s)) (fun e s => dcallG X md nd S d all q acc k (g e s)) := by cases r <;> rfl
@[simp] theorem el_memC : memC S (r.el f g) = r.el (fun a s => memC S (f a s)) (fun e s => memC S (g e s)) := by cases r <;> rfl
@[simp] theorem el_finM {p : FPol} {n0 : Nat} {rs : List ResultVar} {f : α → σ → Option St} {g : ε → σ → Option St} : finM X p n0 rs (r.el f g) = r.el (fun a s => finM X p n0 rs (f a s)) (fun e s => finM X p n0 rs (g e s)) := by cases r <;> rfl
end
attribute [simp] denKD_seq denKD_cond denKD_ret denKD_skip denKD_loop denKD_block denKD_draw denKD_reg runKD_nil runKD_cons
attribute [simp] seqKD.eq_1 leaveKD.eq_1 nextKD.eq_1 oneKD.eq_1 oneKD.eq_2 finKD.eq_1 finKD.eq_2 finM.eq_1 finM.eq_2 memC.eq_1 recA.eq_1 recA.eq_2 recA.eq_3 finD1.eq_1 denRK_seq finRK.eq_1 finRK.eq_2
section
variable {X : Ctx} {f : FuncId} {S : St} {ds : List DF} {kd : KtD} {b : Code}
@[simp] theorem seqKD_r : seqKD X f b kd .ret S ds = kd .ret S ds := rfl
@[simp] theorem seqKD_p {t : TypeId} {x : D} : seqKD X f b kd (.panic t x) S ds = kd (.panic t x) S ds := rfl
@[simp] theorem seqKD_x {i : Nat} : seqKD X f b kd (.exit i) S ds = kd (.exit i) S ds := rfl
@[simp] theorem leaveKD_p {id : Nat} {t : TypeId} {x : D} : leaveKD X f id kd (.panic t x) S ds = kd (.panic t x) S ds := rfl
@[simp] theorem nextKD_p {md : Bool} {all r : List Oper} {t : TypeId} {x : D} : nextKD X md all r ds kd (.panic t x) S = kd (.panic t x) S ds := rfl
end
end Go.Am
end
section
namespace Go.Am
open Go
open Go.Proofs
set_option maxRecDepth 10000
@[simp] def keep3 : Nat → List Nat
  | 0 => [0, 1]
  | 1 => [0, 1, 15]
  | 2 => [4]
  | 3 => [0, 1]
  | 4 => [0, 1, 6]
  | 5 => [0, 1, 38]
  | 6 => [4]
  | 7 => [0, 1, 8, 9]
  | 8 => [0, 1, 8, 9, 10]
  | 9 => [0, 1, 8, 9, 10, 43]
  | 10 => [0, 1, 8, 9, 10]
  | 11 => [0, 1, 8, 9, 10, 51]
  | 12 => [0, 1, 8, 9, 10]
  | 13 => [0, 1, 8, 9, 10]
  | 14 => [0, 1, 62]
  | 15 => [4]
  | 16 => [11, 12, 13]
  | 17 => [4]
  | _ => []
@[simp] def md3 : Nat → Bool
  | _ => false
@[simp] def od3 : Nat → List (List Nat)
  | _ => []
@[simp] def fp3 : FPol := { inpl := [], exp := false, sites := [350, 450, 650, 750], mut_ := [], split := false }
@[simp] def keep4 : Nat → List Nat
  | 0 => [0, 1]
  | 1 => [0, 1, 17]
  | 2 => [4]
  | 3 => [1, 5]
  | 4 => [1, 5, 6, 7, 8]
  | 5 => [1, 5, 6, 7, 8, 21]
  | 6 => [1, 5, 6, 7, 8]
  | 7 => [1, 5, 6, 7, 8, 9]
  | 8 => [1, 5, 6, 7, 8, 9, 24]
  | 9 => [1, 5, 6, 7, 8, 9]
  | 10 => [1, 5, 6, 7, 8, 9]
  | 11 => [1, 5, 6, 7, 8]
  | 12 => [1, 5, 6, 7, 8, 10]
  | 13 => [1, 5, 6, 7, 8, 10, 34]
  | 14 => [1, 5, 6, 7, 8, 10]
  | 15 => [1, 5, 6, 7, 8, 10]
  | 16 => [1, 5, 7, 11, 12, 13]
  | 17 => [1, 5, 7, 11, 12, 13, 50]
  | 18 => [4]
  | 19 => [1, 5, 11, 74]
  | 20 => [4]
  | 21 => [1, 5, 14]
  | 22 => [1, 5, 14, 15]
  | 23 => [1, 5, 14, 15, 85]
  | 24 => [1, 5, 14, 15]
  | 25 => [1, 5, 14, 15, 96]
  | 26 => [4]
  | 27 => [1, 5, 14, 15]
  | 28 => [4]
  | _ => []
@[simp] def md4 : Nat → Bool
  | _ => false
@[simp] def od4 : Nat → List (List Nat)
  | _ => []
@[simp] def fp4 : FPol := { inpl := [], exp := false, sites := [650, 750, 800], mut_ := [], split := false }
@[simp] def keep7 : Nat → List Nat
  | 0 => [0, 1]
  | 1 => [0, 1, 15]
  | 2 => [4]
  | 3 => [0, 1]
  | 4 => [0, 1, 5]
  | 5 => [0, 5, 8]
  | 6 => [5, 8, 11]
  | 7 => [4]
  | _ => []
@[simp] def md7 : Nat → Bool
  | 7 => true
  | _ => false
@[simp] def od7 : Nat → List (List Nat)
  | 3 => [[1, 2, 3, 5, 6, 7, 8, 9], [0, 5, 6, 7, 8, 9], [0, 5, 6, 7, 8, 9], [0, 5, 6, 7, 8, 9], [5, 6, 7, 8, 9], [0, 1, 2, 3, 4, 6, 7, 8, 10], [0, 1, 2, 3, 4, 5, 10], [0, 1, 2, 3, 4, 5, 10], [0, 1, 2, 3, 4, 5, 10], [0, 1, 2, 3, 4, 10], [5, 6, 7, 8, 9], []]
  | 7 => [[1, 3, 4], [0, 3, 4], [3, 4], [0, 1, 2, 4], [0, 1, 2, 3], [], [], [], [9], [8], [], [], [], [14, 16, 17], [13, 16, 17], [16, 17], [13, 14, 15, 17], [13, 14, 15, 16], [], [], [], []]
  | _ => []
@[simp] def fp7 : FPol := { inpl := [], exp := false, sites := [350, 450, 500, 600, 650, 750], mut_ := [], split := false }
@[simp] def keep8 : Nat → List Nat
  | 0 => [0]
  | 1 => [0, 13]
  | 2 => [2]
  | 3 => [0]
  | 4 => [0, 3]
  | 5 => [0, 3, 23]
  | 6 => [0, 3]
  | 7 => [0, 3, 31]
  | 8 => [2]
  | 9 => [0, 4]
  | 10 => [0, 4, 5]
  | 11 => [0, 4, 5, 35]
  | 12 => [0, 4, 5]
  | 13 => [0, 4, 5, 41]
  | 14 => [0, 4, 5]
  | 15 => [0, 4, 5]
  | 16 => [4, 6, 7]
  | 17 => [6, 7, 9, 10]
  | 18 => [2]
  | _ => []
@[simp] def md8 : Nat → Bool
  | 18 => true
  | _ => false
@[simp] def od8 : Nat → List (List Nat)
  | _ => []
@[simp] def fp8 : FPol := { inpl := [], exp := false, sites := [400, 500, 550, 650], mut_ := [], split := false }
@[simp] def keep11 : Nat → List Nat
  | 0 => []
  | 1 => [1, 2]
  | 2 => [0]
  | _ => []
@[simp] def md11 : Nat → Bool
  | 2 => true
  | _ => false
@[simp] def od11 : Nat → List (List Nat)
  | _ => []
@[simp] def fp11 : FPol := { inpl := [], exp := false, sites := [150, 250], mut_ := [], split := false }
@[simp] def keep12 : Nat → List Nat
  | 0 => [0, 2, 3, 4]
  | 1 => [2, 3, 4, 5]
  | 2 => [2, 3, 4, 5, 14]
  | 3 => [2, 3, 4]
  | 4 => [2, 3, 4, 5]
  | 5 => [2, 3, 4, 6]
  | 6 => [2, 3, 4]
  | _ => []
@[simp] def md12 : Nat → Bool
  | _ => false
@[simp] def od12 : Nat → List (List Nat)
  | 3 => [[1, 2], [0, 2, 3], [0, 1, 3, 4], [1, 2], [2], []]
  | _ => []
@[simp] def gh12 : Nat → List Gh
  | 5 => [.adopt 1150 3 1151 8]
  | _ => []
@[simp] def fp12 : FPol := { inpl := [], exp := false, sites := [200, 250, 300, 1150, 1151], mut_ := [], split := false }
@[simp] def keep17 : Nat → List Nat
  | 0 => [2, 3]
  | 1 => [2, 3, 5]
  | 2 => [4]
  | _ => []
@[simp] def md17 : Nat → Bool
  | 2 => true
  | _ => false
@[simp] def od17 : Nat → List (List Nat)
  | _ => []
@[simp] def fp17 : FPol := { inpl := [], exp := false, sites := [200, 250], mut_ := [], split := false }
@[simp] def keep18 : Nat → List Nat
  | 0 => [2, 3, 4]
  | 1 => [2, 3, 4, 23]
  | 2 => [6]
  | 3 => [2, 3, 4, 7]
  | 4 => [2, 3, 4, 7, 28]
  | 5 => [2, 3, 4, 7]
  | 6 => [2, 3, 4, 7, 8, 9]
  | 7 => [2, 3, 4, 7, 8, 9, 42]
  | 8 => [2, 3, 4, 7, 8, 9]
  | 9 => [2, 3, 4, 7, 47]
  | 10 => [6]
  | 11 => [6]
  | _ => []
@[simp] def md18 : Nat → Bool
  | _ => false
@[simp] def od18 : Nat → List (List Nat)
  | 6 => [[2, 5, 6, 7, 8, 9, 10, 11], [2, 5, 6, 7, 8, 9, 10, 11], [0, 1, 5, 6, 7, 8, 9, 10, 11], [5, 6, 7, 8, 9, 10, 11], [5, 6, 7, 8, 9, 10, 11], [0, 1, 2, 3, 4, 7, 10, 11, 12], [0, 1, 2, 3, 4, 7, 10, 11, 12], [0, 1, 2, 3, 4, 5, 6, 10, 11, 12], [0, 1, 2, 3, 4, 10, 11, 12], [0, 1, 2, 3, 4, 10, 11, 12], [0, 1, 2, 3, 4, 5, 6, 7, 8, 9, 11], [0, 1, 2, 3, 4, 5, 6, 7, 8, 9, 10], [5, 6, 7, 8, 9], []]
  | _ => []
@[simp] def fp18 : FPol := { inpl := [], exp := false, sites := [250, 300, 500, 550], mut_ := [], split := false }
@[simp] def keep23 : Nat → List Nat
  | 0 => [0, 4]
  | 1 => [0, 4, 13]
  | 2 => [2, 3, 4]
  | 3 => [4, 5]
  | 4 => [4, 5, 6]
  | 5 => [4, 5, 6, 7]
  | 6 => [4, 5, 6, 7, 8]
  | 7 => [4, 5, 6, 8, 29]
  | 8 => [2, 3, 4]
  | 9 => [4, 5, 6, 8, 33]
  | 10 => [2, 3, 4]
  | 11 => [4, 5, 6, 8, 9, 10]
  | 12 => [4, 5, 6, 8, 9, 10, 50]
  | 13 => [2, 3, 4]
  | 14 => [4, 5, 6, 9]
  | 15 => [4, 5, 6]
  | _ => []
@[simp] def md23 : Nat → Bool
  | _ => false
@[simp] def od23 : Nat → List (List Nat)
  | 6 => [[4, 5, 6, 7, 9], [4, 5, 6, 7, 9], [4, 5, 6, 7, 9], [4, 5, 6, 7, 9], [0, 1, 2, 3, 9], [0, 1, 2, 3, 9], [0, 1, 2, 3, 9], [0, 1, 2, 3, 9], [9], [0, 1, 2, 3, 4, 5, 6, 7, 8], []]
  | 8 => [[1, 2], [0], [0], []]
  | 11 => [[2, 7], [2, 7], [0, 1, 7], [7], [7], [6, 7], [5, 7, 8], [0, 1, 2, 3, 4, 5, 6], [6], []]
  | 13 => [[1, 2], [0, 2, 3], [0, 1], [1], []]
  | _ => []
@[simp] def fp23 : FPol := { inpl := [], exp := false, sites := [200, 300, 400, 500, 550, 950], mut_ := [], split := false }
@[simp] def keep24 : Nat → List Nat
  | 0 => [0, 1, 2, 3]
  | 1 => [0, 1, 2, 3, 8]
  | 2 => [0, 1, 2, 3, 4, 5]
  | 3 => [0, 1, 2, 3, 4, 15]
  | 4 => [0, 1, 2, 4]
  | 5 => []
  | _ => []
@[simp] def md24 : Nat → Bool
  | _ => false
@[simp] def od24 : Nat → List (List Nat)
  | 5 => [[1, 2, 3, 4], [0, 3, 4, 5], [0, 3, 4, 5], [0, 1, 2, 5, 6], [0, 1, 2, 5, 6], [1, 2, 3, 4], [3, 4], []]
  | _ => []
@[simp] def fp24 : FPol := { inpl := [], exp := false, sites := [300], mut_ := [], split := false }
@[simp] def keep25 : Nat → List Nat
  | 0 => [0, 2]
  | 1 => [0, 2]
  | 2 => [0, 2, 3]
  | 3 => [0, 2, 3]
  | 4 => [0, 2, 3]
  | 5 => [0, 2, 3]
  | 6 => [0, 2, 3]
  | 7 => [2, 3]
  | 8 => [2]
  | _ => []
@[simp] def md25 : Nat → Bool
  | _ => false
@[simp] def od25 : Nat → List (List Nat)
  | _ => []
@[simp] def fp25 : FPol := { inpl := [], exp := false, sites := [200, 250], mut_ := [], split := false }
@[simp] def keep27 : Nat → List Nat
  | 0 => [0, 1]
  | 1 => [0, 1, 5]
  | 2 => [0, 1, 5, 6]
  | 3 => [0, 1, 5, 6, 14]
  | 4 => [0, 1, 5, 6, 14, 15, 16]
  | 5 => [0, 1, 5, 6, 7, 8, 14]
  | 6 => [0, 1, 5, 6, 7, 14, 21]
  | 7 => [0, 1, 5, 6, 7, 14, 23]
  | 8 => [0, 1, 5, 6, 14]
  | 9 => [0, 1, 5, 6, 14]
  | 10 => [0, 1, 5, 6, 7, 14, 33]
  | 11 => [0, 1, 5, 6, 14]
  | 12 => [0, 5, 6, 36]
  | 13 => [0, 5]
  | 14 => [0, 5, 9]
  | 15 => [0, 9, 47, 48, 49]
  | 16 => [0, 9, 47, 48, 49, 50]
  | 17 => [0, 9, 10, 11, 47, 48, 49]
  | 18 => [0, 9, 47, 48, 49]
  | 19 => [0, 9, 47, 48, 49]
  | 20 => [4]
  | _ => []
@[simp] def md27 : Nat → Bool
  | _ => false
@[simp] def od27 : Nat → List (List Nat)
  | _ => []
@[simp] def fp27 : FPol := { inpl := [], exp := false, sites := [650, 700, 2400], mut_ := [], split := false }
@[simp] def keep34 : Nat → List Nat
  | 0 => [0, 1, 2]
  | 1 => [0, 1, 2, 14]
  | 2 => [6]
  | 3 => [1, 2, 15, 16, 17]
  | 4 => [1, 2, 15, 16, 17, 18]
  | 5 => [1, 2, 7, 8, 15, 16, 17]
  | 6 => [1, 2, 8, 9, 15, 16, 17]
  | 7 => [1, 2, 15, 16, 17, 30]
  | 8 => [6]
  | 9 => [1, 2, 15, 16, 17]
  | 10 => [6]
  | _ => []
@[simp] def md34 : Nat → Bool
  | _ => false
@[simp] def od34 : Nat → List (List Nat)
  | _ => []
@[simp] def fp34 : FPol := { inpl := [], exp := false, sites := [500, 550], mut_ := [], split := false }
@[simp] def keep35 : Nat → List Nat
  | 0 => [2, 3]
  | 1 => [2, 3]
  | 2 => [4]
  | _ => []
@[simp] def md35 : Nat → Bool
  | _ => false
@[simp] def od35 : Nat → List (List Nat)
  | _ => []
@[simp] def fp35 : FPol := { inpl := [], exp := false, sites := [200, 250], mut_ := [], split := false }
@[simp] def keep36 : Nat → List Nat
  | 0 => [0, 1]
  | 1 => [4]
  | _ => []
@[simp] def md36 : Nat → Bool
  | _ => false
@[simp] def od36 : Nat → List (List Nat)
  | _ => []
@[simp] def fp36 : FPol := { inpl := [], exp := false, sites := [], mut_ := [], split := false }
@[simp] def keep37 : Nat → List Nat
  | 0 => [0, 1, 2]
  | 1 => [0, 1, 2, 17]
  | 2 => [6]
  | 3 => [0, 1, 2, 7]
  | 4 => [0, 1, 2, 7, 21]
  | 5 => [0, 1, 2, 7]
  | 6 => [0, 1, 2, 7, 8, 9]
  | 7 => [0, 1, 2, 7, 8, 9, 80]
  | 8 => [6]
  | 9 => [0, 1, 2, 7, 8, 9, 102]
  | 10 => [6]
  | 11 => [0, 1, 2, 7, 8, 9, 10]
  | 12 => [0, 1, 2, 7, 8, 9, 10, 107]
  | 13 => [0, 1, 2, 7, 8, 9, 10]
  | 14 => [0, 1, 2, 7, 8, 9, 10, 121]
  | 15 => [6]
  | 16 => [0, 1, 2, 7, 8, 9, 11]
  | 17 => [0, 1, 2, 7, 8, 9, 11, 126]
  | 18 => [0, 1, 2, 7, 8, 9, 11]
  | 19 => [0, 1, 2, 7, 8, 9, 11, 139]
  | 20 => [6]
  | 21 => [0, 1, 2, 7, 8, 9, 12]
  | 22 => [0, 1, 2, 7, 8, 9, 12, 144]
  | 23 => [0, 1, 2, 7, 8, 9, 12]
  | 24 => [0, 1, 2, 7, 8, 9, 12, 159]
  | 25 => [6]
  | 26 => [6]
  | _ => []
@[simp] def md37 : Nat → Bool
  | 7 => true
  | 9 => true
  | _ => false
@[simp] def od37 : Nat → List (List Nat)
  | 6 => [[1, 4, 5, 6, 7, 8, 9], [0, 4, 5, 6, 7, 8, 9], [4, 5, 6, 7, 8, 9], [4, 5, 6, 7, 8, 9], [0, 1, 2, 3, 5, 8, 9, 10], [0, 1, 2, 3, 4, 8, 9, 10], [0, 1, 2, 3, 8, 9, 10], [0, 1, 2, 3, 8, 9, 10], [0, 1, 2, 3, 4, 5, 6, 7, 9], [0, 1, 2, 3, 4, 5, 6, 7, 8], [4, 5, 6, 7], []]
  | 14 => [[2, 5, 6, 7, 8, 9], [2, 5, 6, 7, 8, 9], [0, 1, 5, 6, 7, 8, 9], [5, 6, 7, 8, 9], [5, 6, 7, 8, 9], [0, 1, 2, 3, 4, 7], [0, 1, 2, 3, 4, 7], [0, 1, 2, 3, 4, 5, 6], [0, 1, 2, 3, 4], [0, 1, 2, 3, 4], [], []]
  | 19 => [[2, 5, 6, 7, 8, 9], [2, 5, 6, 7, 8, 9], [0, 1, 5, 6, 7, 8, 9], [5, 6, 7, 8, 9], [5, 6, 7, 8, 9], [0, 1, 2, 3, 4, 7], [0, 1, 2, 3, 4, 7], [0, 1, 2, 3, 4, 5, 6], [0, 1, 2, 3, 4], [0, 1, 2, 3, 4], []]
  | 24 => [[2, 5, 6, 7, 8, 9, 10], [2, 5, 6, 7, 8, 9, 10], [0, 1, 5, 6, 7, 8, 9, 10], [5, 6, 7, 8, 9, 10], [5, 6, 7, 8, 9, 10], [0, 1, 2, 3, 4, 7, 10], [0, 1, 2, 3, 4, 7, 10], [0, 1, 2, 3, 4, 5, 6, 10], [0, 1, 2, 3, 4, 10], [0, 1, 2, 3, 4, 10], [0, 1, 2, 3, 4, 5, 6, 7, 8, 9], [], []]
  | _ => []
@[simp] def fp37 : FPol := { inpl := [], exp := false, sites := [500, 550], mut_ := [], split := false }
@[simp] def keep45 : Nat → List Nat
  | 0 => [0]
  | 1 => [0, 3]
  | 2 => [2]
  | 3 => [0, 3, 8]
  | 4 => [2]
  | 5 => [0, 3, 11]
  | 6 => [0]
  | 7 => [0, 3, 27]
  | 8 => [0, 3, 4]
  | 9 => [0, 3, 4, 33]
  | 10 => [0, 4]
  | 11 => [0]
  | 12 => [0, 3, 39]
  | 13 => [0, 5]
  | 14 => [0, 5, 46]
  | 15 => [2]
  | 16 => [0]
  | _ => []
@[simp] def md45 : Nat → Bool
  | 5 => true
  | _ => false
@[simp] def od45 : Nat → List (List Nat)
  | _ => []
@[simp] def fp45 : FPol := { inpl := [], exp := false, sites := [], mut_ := [], split := false }
@[simp] def keep46 : Nat → List Nat
  | 0 => [0]
  | 1 => [2]
  | _ => []
@[simp] def md46 : Nat → Bool
  | _ => false
@[simp] def od46 : Nat → List (List Nat)
  | 1 => [[4, 5, 6, 7], [4, 5, 6, 7], [4, 5, 6, 7], [4, 5, 6, 7], [0, 1, 2, 3], [0, 1, 2, 3], [0, 1, 2, 3], [0, 1, 2, 3], [], []]
  | _ => []
@[simp] def fp46 : FPol := { inpl := [], exp := false, sites := [], mut_ := [], split := false }
@[simp] def keep47 : Nat → List Nat
  | 0 => [0, 3, 4]
  | 1 => [0, 3, 4]
  | 2 => [0, 3, 4, 6]
  | 3 => [0, 3, 4, 6, 13]
  | 4 => [4, 5]
  | 5 => [0, 3, 4, 6]
  | 6 => [0, 3, 4, 16]
  | 7 => [0, 3, 4, 6]
  | 8 => [0, 3, 4, 6]
  | 9 => [0, 3, 4, 6, 26]
  | 10 => [0, 3, 4, 6]
  | 11 => [0, 3, 4, 6, 29]
  | 12 => [4, 5]
  | 13 => [0, 3, 4, 31]
  | 14 => [0, 3, 4, 7, 8, 9]
  | 15 => [0, 3, 4, 7, 8, 9, 42]
  | 16 => [4, 5]
  | 17 => [0, 3, 4, 6, 8]
  | 18 => [0, 3, 4, 6]
  | 19 => [3, 4]
  | 20 => [4, 5]
  | _ => []
@[simp] def md47 : Nat → Bool
  | _ => false
@[simp] def od47 : Nat → List (List Nat)
  | _ => []
@[simp] def fp47 : FPol := { inpl := [], exp := false, sites := [250, 300], mut_ := [], split := false }
@[simp] def keep48 : Nat → List Nat
  | 0 => [0, 4, 5]
  | 1 => [0, 4, 5, 6]
  | 2 => [0, 4, 5]
  | 3 => [0, 4, 5, 23]
  | 4 => [0, 4, 5]
  | 5 => [0, 4, 5]
  | 6 => [0, 4, 5]
  | 7 => [0, 4, 5]
  | _ => []
@[simp] def md48 : Nat → Bool
  | _ => false
@[simp] def od48 : Nat → List (List Nat)
  | 3 => [[4, 5, 6, 7], [4, 5, 6, 7], [4, 5, 6, 7], [4, 5, 6, 7], [0, 1, 2, 3], [0, 1, 2, 3], [0, 1, 2, 3], [0, 1, 2, 3], [], []]
  | _ => []
@[simp] def fp48 : FPol := { inpl := [], exp := false, sites := [], mut_ := [], split := false }
@[simp] def keep49 : Nat → List Nat
  | 0 => [0, 7]
  | 1 => []
  | _ => []
@[simp] def md49 : Nat → Bool
  | _ => false
@[simp] def od49 : Nat → List (List Nat)
  | _ => []
@[simp] def fp49 : FPol := { inpl := [1], exp := false, sites := [], mut_ := [], split := false }
@[simp] def keep50 : Nat → List Nat
  | 0 => [0, 1, 4]
  | 1 => [0, 4, 9]
  | 2 => [0, 4]
  | 3 => [4]
  | _ => []
@[simp] def md50 : Nat → Bool
  | _ => false
@[simp] def od50 : Nat → List (List Nat)
  | _ => []
@[simp] def fp50 : FPol := { inpl := [1], exp := false, sites := [300], mut_ := [], split := false }
@[simp] def keep51 : Nat → List Nat
  | 0 => [0, 2]
  | 1 => [0, 2, 3]
  | 2 => [0, 6]
  | 3 => [0, 2]
  | 4 => [0, 9]
  | 5 => [0, 2]
  | 6 => [0, 2, 14]
  | 7 => [0, 2]
  | _ => []
@[simp] def md51 : Nat → Bool
  | _ => false
@[simp] def od51 : Nat → List (List Nat)
  | _ => []
@[simp] def fp51 : FPol := { inpl := [], exp := false, sites := [], mut_ := [], split := false }
@[simp] def keep52 : Nat → List Nat
  | 0 => [0, 1]
  | 1 => [0, 1, 5]
  | 2 => [0, 1, 5, 10]
  | 3 => [0, 1, 5]
  | 4 => [4]
  | _ => []
@[simp] def md52 : Nat → Bool
  | _ => false
@[simp] def od52 : Nat → List (List Nat)
  | _ => []
@[simp] def fp52 : FPol := { inpl := [1], exp := false, sites := [350], mut_ := [], split := false }
@[simp] def keep57 : Nat → List Nat
  | 0 => [0, 1, 2]
  | 1 => [0, 1, 2, 14]
  | 2 => [6]
  | 3 => [1, 2, 15, 16, 17]
  | 4 => [1, 2, 15, 16, 17, 18]
  | 5 => [1, 2, 7, 8, 15, 16, 17]
  | 6 => [1, 2, 8, 9, 15, 16, 17]
  | 7 => [1, 2, 15, 16, 17, 30]
  | 8 => [6]
  | 9 => [1, 2, 15, 16, 17]
  | 10 => [6]
  | _ => []
@[simp] def md57 : Nat → Bool
  | _ => false
@[simp] def od57 : Nat → List (List Nat)
  | _ => []
@[simp] def fp57 : FPol := { inpl := [], exp := false, sites := [500, 550], mut_ := [], split := false }
@[simp] def keep58 : Nat → List Nat
  | 0 => [2, 3]
  | 1 => [4]
  | _ => []
@[simp] def md58 : Nat → Bool
  | 1 => true
  | _ => false
@[simp] def od58 : Nat → List (List Nat)
  | _ => []
@[simp] def fp58 : FPol := { inpl := [], exp := false, sites := [200, 250], mut_ := [], split := false }
@[simp] def keep59 : Nat → List Nat
  | 0 => [0, 1, 2]
  | 1 => [0, 1, 2, 14]
  | 2 => [6]
  | 3 => [0, 1, 2, 7]
  | 4 => [0, 1, 2, 7, 18]
  | 5 => [0, 1, 2, 7]
  | 6 => [0, 1, 2, 7, 8, 9]
  | 7 => [0, 1, 2, 7, 73]
  | 8 => [6]
  | 9 => [6]
  | _ => []
@[simp] def md59 : Nat → Bool
  | 7 => true
  | _ => false
@[simp] def od59 : Nat → List (List Nat)
  | 6 => [[1, 4, 5, 6, 7, 8, 9], [0, 4, 5, 6, 7, 8, 9], [4, 5, 6, 7, 8, 9], [4, 5, 6, 7, 8, 9], [0, 1, 2, 3, 5, 8, 9, 10], [0, 1, 2, 3, 4, 8, 9, 10], [0, 1, 2, 3, 8, 9, 10], [0, 1, 2, 3, 8, 9, 10], [0, 1, 2, 3, 4, 5, 6, 7, 9], [0, 1, 2, 3, 4, 5, 6, 7, 8], [4, 5, 6, 7], []]
  | _ => []
@[simp] def fp59 : FPol := { inpl := [], exp := false, sites := [500, 550], mut_ := [], split := false }
@[simp] def keep60 : Nat → List Nat
  | 0 => [0, 1]
  | 1 => [0, 1, 10]
  | 2 => [4]
  | 3 => [0, 1, 5]
  | 4 => [0, 1, 5, 14]
  | 5 => [0, 1, 5]
  | 6 => [0, 1, 5, 25]
  | 7 => [4]
  | 8 => [4]
  | _ => []
@[simp] def md60 : Nat → Bool
  | _ => false
@[simp] def od60 : Nat → List (List Nat)
  | 6 => [[1, 4, 5, 6, 7], [0, 4, 5, 6, 7], [4, 5, 6, 7], [4, 5, 6, 7], [0, 1, 2, 3, 5], [0, 1, 2, 3, 4], [0, 1, 2, 3], [0, 1, 2, 3], []]
  | _ => []
@[simp] def fp60 : FPol := { inpl := [], exp := false, sites := [], mut_ := [], split := false }
@[simp] def keep67 : Nat → List Nat
  | 0 => [0, 1]
  | 1 => [4]
  | _ => []
@[simp] def md67 : Nat → Bool
  | _ => false
@[simp] def od67 : Nat → List (List Nat)
  | _ => []
@[simp] def fp67 : FPol := { inpl := [], exp := false, sites := [], mut_ := [], split := false }
@[simp] def keep68 : Nat → List Nat
  | 0 => [0, 1]
  | 1 => [4]
  | _ => []
@[simp] def md68 : Nat → Bool
  | _ => false
@[simp] def od68 : Nat → List (List Nat)
  | _ => []
@[simp] def fp68 : FPol := { inpl := [], exp := false, sites := [], mut_ := [], split := false }
@[simp] def keep69 : Nat → List Nat
  | 0 => [0, 1]
  | 1 => [4]
  | _ => []
@[simp] def md69 : Nat → Bool
  | _ => false
@[simp] def od69 : Nat → List (List Nat)
  | _ => []
@[simp] def fp69 : FPol := { inpl := [], exp := false, sites := [], mut_ := [], split := false }
@[simp] def keep70 : Nat → List Nat
  | 0 => [0]
  | 1 => [2]
  | _ => []
@[simp] def md70 : Nat → Bool
  | 1 => true
  | _ => false
@[simp] def od70 : Nat → List (List Nat)
  | _ => []
@[simp] def fp70 : FPol := { inpl := [], exp := false, sites := [], mut_ := [], split := false }
@[simp] def keep71 : Nat → List Nat
  | 0 => [0, 1]
  | 1 => [0, 1, 5]
  | 2 => [0, 1, 5, 16]
  | 3 => [0, 1, 5]
  | 4 => [4]
  | _ => []
@[simp] def md71 : Nat → Bool
  | 2 => true
  | _ => false
@[simp] def od71 : Nat → List (List Nat)
  | _ => []
@[simp] def fp71 : FPol := { inpl := [], exp := false, sites := [], mut_ := [], split := false }
@[simp] def keep72 : Nat → List Nat
  | 0 => [0]
  | 1 => [2]
  | _ => []
@[simp] def md72 : Nat → Bool
  | 1 => true
  | _ => false
@[simp] def od72 : Nat → List (List Nat)
  | _ => []
@[simp] def fp72 : FPol := { inpl := [], exp := false, sites := [], mut_ := [], split := false }
@[simp] def keep73 : Nat → List Nat
  | 0 => [0]
  | 1 => [2]
  | _ => []
@[simp] def md73 : Nat → Bool
  | _ => false
@[simp] def od73 : Nat → List (List Nat)
  | _ => []
@[simp] def fp73 : FPol := { inpl := [], exp := false, sites := [], mut_ := [], split := false }
@[simp] def keep74 : Nat → List Nat
  | 0 => [0]
  | 1 => [2]
  | _ => []
@[simp] def md74 : Nat → Bool
  | _ => false
@[simp] def od74 : Nat → List (List Nat)
  | _ => []
@[simp] def fp74 : FPol := { inpl := [], exp := false, sites := [], mut_ := [], split := false }
@[simp] def keep75 : Nat → List Nat
  | 0 => [0]
  | 1 => [0, 5, 6]
  | 2 => [0, 5, 6, 16, 17, 18]
  | 3 => [0, 5, 6, 16, 17, 18, 19]
  | 4 => [0, 5, 6, 8, 16, 17, 18]
  | 5 => [0, 5, 6, 8, 16, 17, 18, 25]
  | 6 => [0, 5, 6, 16, 17, 18]
  | 7 => [0, 5, 6, 16, 17, 18]
  | 8 => [0, 5, 6, 9]
  | 9 => [0, 5, 6, 9, 59]
  | 10 => [2, 3, 4]
  | 11 => [0, 5, 6, 9, 10]
  | 12 => [0, 5, 9, 10, 11]
  | 13 => [0, 5, 9, 10, 11, 63]
  | 14 => [0, 5, 9, 10, 11]
  | 15 => [0, 5, 9, 10, 11, 12]
  | 16 => [0, 5, 9, 10, 11, 12, 75]
  | 17 => [2, 3, 4]
  | 18 => [0, 5, 9, 10, 11]
  | 19 => [2, 3, 4]
  | _ => []
@[simp] def md75 : Nat → Bool
  | 9 => true
  | _ => false
@[simp] def od75 : Nat → List (List Nat)
  | 6 => [[2, 3, 4], [2, 3, 4], [0, 1, 5], [0, 1, 5], [0, 1, 5], [2, 3, 4], []]
  | _ => []
@[simp] def fp75 : FPol := { inpl := [], exp := false, sites := [350, 500], mut_ := [], split := false }
@[simp] def keep76 : Nat → List Nat
  | 0 => [0]
  | 1 => [0, 5, 6, 7]
  | 2 => [0, 5, 6, 7, 8]
  | 3 => [0, 4, 5, 6, 7]
  | 4 => [0, 5, 6, 7, 13]
  | 5 => [2]
  | 6 => [0, 5, 6, 7]
  | 7 => [18]
  | 8 => [2]
  | 9 => [2]
  | _ => []
@[simp] def md76 : Nat → Bool
  | _ => false
@[simp] def od76 : Nat → List (List Nat)
  | _ => []
@[simp] def fp76 : FPol := { inpl := [], exp := false, sites := [], mut_ := [], split := false }
@[simp] def keep77 : Nat → List Nat
  | 0 => [0, 1]
  | 1 => [0, 8]
  | 2 => [4]
  | 3 => []
  | 4 => [4]
  | _ => []
@[simp] def md77 : Nat → Bool
  | _ => false
@[simp] def od77 : Nat → List (List Nat)
  | _ => []
@[simp] def fp77 : FPol := { inpl := [1], exp := false, sites := [], mut_ := [], split := false }
@[simp] def keep78 : Nat → List Nat
  | 0 => [0, 3]
  | 1 => []
  | _ => []
@[simp] def md78 : Nat → Bool
  | _ => false
@[simp] def od78 : Nat → List (List Nat)
  | _ => []
@[simp] def fp78 : FPol := { inpl := [], exp := false, sites := [250], mut_ := [], split := false }
@[simp] def keep79 : Nat → List Nat
  | 0 => [0, 2]
  | 1 => [2]
  | _ => []
@[simp] def md79 : Nat → Bool
  | _ => false
@[simp] def od79 : Nat → List (List Nat)
  | 1 => [[4, 5, 6, 7], [4, 5, 6, 7], [4, 5, 6, 7], [4, 5, 6, 7], [0, 1, 2, 3], [0, 1, 2, 3], [0, 1, 2, 3], [0, 1, 2, 3], [], [], []]
  | _ => []
@[simp] def fp79 : FPol := { inpl := [1], exp := false, sites := [200], mut_ := [], split := false }
@[simp] def keep80 : Nat → List Nat
  | 0 => [0, 2]
  | 1 => [0, 2, 3]
  | 2 => [0, 2, 3, 8]
  | 3 => [2, 3]
  | 4 => [2]
  | _ => []
@[simp] def md80 : Nat → Bool
  | _ => false
@[simp] def od80 : Nat → List (List Nat)
  | _ => []
@[simp] def fp80 : FPol := { inpl := [1], exp := false, sites := [200, 250], mut_ := [], split := false }
@[simp] def keep81 : Nat → List Nat
  | 0 => [0, 1, 4]
  | 1 => [0, 1, 4, 5]
  | 2 => [0, 1, 4, 5]
  | 3 => [0, 1, 4, 5, 26]
  | 4 => [0, 1, 4]
  | 5 => [0, 1, 4, 31]
  | 6 => [0, 1, 4]
  | 7 => [0, 1, 4, 6]
  | 8 => [0, 1, 4, 6, 7]
  | 9 => [0, 1, 4, 6, 7, 37]
  | 10 => [0, 1, 4, 6, 8, 9]
  | 11 => [0, 1, 4, 6, 8, 56]
  | 12 => [0, 1, 4, 6, 8]
  | 13 => [0, 1, 4, 6, 7]
  | 14 => [0, 1, 4, 6, 7]
  | 15 => [0, 1, 6, 7, 63, 64, 65]
  | 16 => [0, 1, 6, 7, 63, 64, 65, 66]
  | 17 => [0, 1, 6, 7, 11, 63, 64, 65]
  | 18 => [0, 1, 6, 7, 63, 64, 65]
  | 19 => [0, 1, 6, 7, 63, 64, 65]
  | _ => []
@[simp] def md81 : Nat → Bool
  | _ => false
@[simp] def od81 : Nat → List (List Nat)
  | 18 => [[1, 2, 3, 4, 5, 6, 7, 8, 9, 10, 11, 12, 13, 14, 15, 16, 17, 18, 19, 20, 21], [0, 5, 6, 7, 8, 9, 10, 11, 12, 13, 14, 15, 16, 17, 18, 19, 20], [0, 5, 6, 7, 8, 9, 10, 11, 12, 13, 14, 15, 16, 17, 18, 19, 20], [0, 5, 6, 7, 8, 9, 10, 11, 12, 13, 14, 15, 16, 17, 18, 19, 20], [0, 5, 6, 7, 8, 9, 10, 11, 12, 13, 14, 15, 16, 17, 18, 19, 20], [0, 1, 2, 3, 4, 7, 8, 9, 10, 11, 12, 13, 14, 15, 16, 17, 18], [0, 1, 2, 3, 4, 7, 8, 9, 10, 11, 12, 13, 14, 15, 16, 17, 18], [0, 1, 2, 3, 4, 5, 6, 9, 10, 11, 12, 13, 14, 15, 16, 17, 18], [0, 1, 2, 3, 4, 5, 6, 9, 10, 11, 12, 13, 14, 15, 16, 17, 18], [0, 1, 2, 3, 4, 5, 6, 7, 8, 10, 11, 12, 13, 14, 15, 16, 17, 18], [0, 1, 2, 3, 4, 5, 6, 7, 8, 9, 12, 13, 14, 15, 16, 17, 18], [0, 1, 2, 3, 4, 5, 6, 7, 8, 9, 12, 13, 14, 15, 16, 17, 18], [0, 1, 2, 3, 4, 5, 6, 7, 8, 9, 10, 11, 14, 15, 16, 17, 18], [0, 1, 2, 3, 4, 5, 6, 7, 8, 9, 10, 11, 14, 15, 16, 17, 18], [0, 1, 2, 3, 4, 5, 6, 7, 8, 9, 10, 11, 12, 13, 16, 17, 18], [0, 1, 2, 3, 4, 5, 6, 7, 8, 9, 10, 11, 12, 13, 16, 17, 18], [0, 1, 2, 3, 4, 5, 6, 7, 8, 9, 10, 11, 12, 13, 14, 15, 17, 18], [0, 1, 2, 3, 4, 5, 6, 7, 8, 9, 10, 11, 12, 13, 14, 15, 16], [0, 1, 2, 3, 4, 5, 6, 7, 8, 9, 10, 11, 12, 13, 14, 15, 16], [0, 1, 2, 3, 4], [0, 1, 2, 3, 4], [0], [], [], []]
  | _ => []
@[simp] def fp81 : FPol := { inpl := [], exp := false, sites := [300, 350, 400, 650], mut_ := [], split := false }
@[simp] def keep82 : Nat → List Nat
  | 0 => [0, 1]
  | 1 => [4]
  | _ => []
@[simp] def md82 : Nat → Bool
  | _ => false
@[simp] def od82 : Nat → List (List Nat)
  | _ => []
@[simp] def fp82 : FPol := { inpl := [1], exp := false, sites := [], mut_ := [], split := false }
@[simp] def keep83 : Nat → List Nat
  | 0 => [0, 1]
  | 1 => [1, 5]
  | 2 => [4]
  | _ => []
@[simp] def md83 : Nat → Bool
  | _ => false
@[simp] def od83 : Nat → List (List Nat)
  | _ => []
@[simp] def fp83 : FPol := { inpl := [1], exp := false, sites := [350], mut_ := [], split := false }
@[simp] def keep84 : Nat → List Nat
  | 0 => [0, 2]
  | 1 => [0, 2, 3]
  | 2 => [0, 2, 3]
  | 3 => [0, 2, 3, 4]
  | 4 => [0, 2, 3, 4]
  | 5 => [2, 3, 4]
  | 6 => [2, 4]
  | 7 => [2]
  | _ => []
@[simp] def md84 : Nat → Bool
  | _ => false
@[simp] def od84 : Nat → List (List Nat)
  | _ => []
@[simp] def fp84 : FPol := { inpl := [1], exp := false, sites := [200, 250, 300], mut_ := [], split := false }
@[simp] def keep91 : Nat → List Nat
  | 0 => [2, 3]
  | 1 => [4]
  | _ => []
@[simp] def md91 : Nat → Bool
  | 1 => true
  | _ => false
@[simp] def od91 : Nat → List (List Nat)
  | _ => []
@[simp] def fp91 : FPol := { inpl := [], exp := false, sites := [200, 250], mut_ := [], split := false }
@[simp] def keep92 : Nat → List Nat
  | 0 => [0, 1, 2]
  | 1 => [0, 1, 2, 14]
  | 2 => [6]
  | 3 => [1, 2, 15, 16, 17]
  | 4 => [1, 2, 15, 16, 17, 18]
  | 5 => [1, 2, 7, 8, 15, 16, 17]
  | 6 => [1, 2, 8, 9, 15, 16, 17]
  | 7 => [1, 2, 15, 16, 17, 30]
  | 8 => [6]
  | 9 => [1, 2, 15, 16, 17]
  | 10 => [6]
  | _ => []
@[simp] def md92 : Nat → Bool
  | _ => false
@[simp] def od92 : Nat → List (List Nat)
  | _ => []
@[simp] def fp92 : FPol := { inpl := [], exp := false, sites := [500, 550], mut_ := [], split := false }
@[simp] def keep93 : Nat → List Nat
  | 0 => [0, 1, 2]
  | 1 => [0, 1, 2, 14]
  | 2 => [6]
  | 3 => [1, 2, 15, 16, 17]
  | 4 => [1, 2, 15, 16, 17, 18]
  | 5 => [1, 2, 7, 8, 15, 16, 17]
  | 6 => [1, 2, 8, 9, 15, 16, 17]
  | 7 => [1, 2, 15, 16, 17, 30]
  | 8 => [6]
  | 9 => [1, 2, 15, 16, 17]
  | 10 => [6]
  | _ => []
@[simp] def md93 : Nat → Bool
  | _ => false
@[simp] def od93 : Nat → List (List Nat)
  | _ => []
@[simp] def fp93 : FPol := { inpl := [], exp := false, sites := [], mut_ := [], split := false }
@[simp] def keep94 : Nat → List Nat
  | 0 => [0, 1]
  | 1 => [4]
  | _ => []
@[simp] def md94 : Nat → Bool
  | _ => false
@[simp] def od94 : Nat → List (List Nat)
  | _ => []
@[simp] def fp94 : FPol := { inpl := [], exp := false, sites := [], mut_ := [], split := false }
@[simp] def keep95 : Nat → List Nat
  | 0 => [0, 1]
  | 1 => [0, 1, 10]
  | 2 => [4]
  | 3 => [0, 1, 12, 13]
  | 4 => [0, 1, 12, 13, 14]
  | 5 => [0, 1, 5, 12, 13]
  | 6 => [0, 1, 12, 13, 24]
  | 7 => [4]
  | 8 => [0, 1, 12, 13]
  | 9 => [4]
  | _ => []
@[simp] def md95 : Nat → Bool
  | _ => false
@[simp] def od95 : Nat → List (List Nat)
  | 6 => [[1, 4, 5, 6, 7], [0, 4, 5, 6, 7], [4, 5, 6, 7], [4, 5, 6, 7], [0, 1, 2, 3, 5], [0, 1, 2, 3, 4], [0, 1, 2, 3], [0, 1, 2, 3], []]
  | _ => []
@[simp] def fp95 : FPol := { inpl := [], exp := false, sites := [], mut_ := [], split := false }
@[simp] def keep96 : Nat → List Nat
  | 0 => [0, 1, 2]
  | 1 => [0, 1, 2, 14]
  | 2 => [6]
  | 3 => [1, 2, 15, 16, 17]
  | 4 => [1, 2, 15, 16, 17, 18]
  | 5 => [1, 2, 7, 8, 15, 16, 17]
  | 6 => [1, 2, 8, 9, 15, 16, 17]
  | 7 => [1, 2, 15, 16, 17, 30]
  | 8 => [6]
  | 9 => [1, 2, 15, 16, 17]
  | 10 => [6]
  | _ => []
@[simp] def md96 : Nat → Bool
  | _ => false
@[simp] def od96 : Nat → List (List Nat)
  | _ => []
@[simp] def fp96 : FPol := { inpl := [], exp := false, sites := [], mut_ := [], split := false }
@[simp] def keep106 : Nat → List Nat
  | 0 => [0, 1]
  | 1 => [4]
  | _ => []
@[simp] def md106 : Nat → Bool
  | 1 => true
  | _ => false
@[simp] def od106 : Nat → List (List Nat)
  | _ => []
@[simp] def fp106 : FPol := { inpl := [], exp := false, sites := [], mut_ := [], split := false }
@[simp] def keep107 : Nat → List Nat
  | 0 => [0, 1]
  | 1 => [4]
  | _ => []
@[simp] def md107 : Nat → Bool
  | _ => false
@[simp] def od107 : Nat → List (List Nat)
  | _ => []
@[simp] def fp107 : FPol := { inpl := [], exp := false, sites := [], mut_ := [], split := false }
@[simp] def keep108 : Nat → List Nat
  | 0 => [0, 1]
  | 1 => [0, 1, 5]
  | 2 => [0, 1, 5, 16]
  | 3 => [4]
  | 4 => [0, 1, 5, 24]
  | 5 => [4]
  | 6 => [0, 1, 5, 31]
  | 7 => [4]
  | 8 => [0, 1, 5, 36]
  | 9 => [4]
  | 10 => [0, 1, 5, 6]
  | 11 => [0, 1, 5, 6, 7]
  | 12 => [0, 1, 5, 6, 7, 8]
  | 13 => [0, 1, 5, 6, 7, 8, 9]
  | 14 => [0, 1, 5, 6, 7, 8, 9, 10]
  | 15 => [0, 1, 5, 6, 7, 8, 9, 10, 59]
  | 16 => [0, 1, 5, 6, 7, 8, 9, 10, 64]
  | 17 => [0, 1, 5, 6, 7, 8, 9, 10, 11]
  | 18 => [0, 1, 5, 6, 7, 8, 9, 10, 11, 73]
  | 19 => [4]
  | 20 => [0, 1, 5, 6, 7, 8, 9, 10]
  | 21 => [0, 1, 5, 6, 7, 8, 9, 10, 93]
  | 22 => [4]
  | 23 => [0, 1, 5, 6, 7, 8, 9, 10]
  | 24 => [0, 1, 5, 6, 7, 8, 9, 10]
  | 25 => [0, 1, 5, 6, 7, 8, 9, 10, 107]
  | 26 => [8, 12]
  | 27 => [8, 12, 114]
  | 28 => [4]
  | 29 => [4]
  | 30 => [0, 1, 5, 6, 7, 8, 9, 10, 132]
  | 31 => [8, 13]
  | 32 => [8, 13, 139]
  | 33 => [4]
  | 34 => [4]
  | 35 => [4]
  | _ => []
@[simp] def md108 : Nat → Bool
  | 21 => true
  | 25 => true
  | _ => false
@[simp] def od108 : Nat → List (List Nat)
  | _ => []
@[simp] def fp108 : FPol := { inpl := [], exp := false, sites := [], mut_ := [], split := false }
@[simp] def keep109 : Nat → List Nat
  | 0 => [0, 1]
  | 1 => [4]
  | _ => []
@[simp] def md109 : Nat → Bool
  | _ => false
@[simp] def od109 : Nat → List (List Nat)
  | _ => []
@[simp] def fp109 : FPol := { inpl := [], exp := false, sites := [], mut_ := [], split := false }
@[simp] def keep110 : Nat → List Nat
  | 0 => [0]
  | 1 => [0, 3]
  | 2 => [0, 3, 4]
  | 3 => [0, 3, 4, 5]
  | 4 => [0, 3, 4, 5, 6]
  | 5 => [0, 3, 4, 5, 6, 16]
  | 6 => [0, 3, 4, 5, 6]
  | 7 => [0, 3, 4, 5, 6, 7]
  | 8 => [0, 3, 4, 5, 6, 7]
  | 9 => [0, 3, 4, 5, 6, 8]
  | 10 => [0, 3, 5, 6, 8]
  | 11 => [0, 3, 4, 5, 6]
  | 12 => [0, 3, 37]
  | 13 => [2]
  | 14 => [0, 9]
  | 15 => [0, 9, 10]
  | 16 => [0, 9, 10]
  | 17 => [0, 9, 10, 12]
  | 18 => [0, 9, 10, 12, 53]
  | 19 => [0, 9, 10, 12]
  | 20 => [0, 9, 10, 11, 12]
  | 21 => [0, 9, 10, 11, 12, 60]
  | 22 => [0, 9, 10, 11, 12, 66]
  | 23 => [0, 9, 10, 11, 12]
  | 24 => [0, 9, 10, 12]
  | 25 => [0, 9, 10, 12]
  | 26 => [0, 9, 10, 12]
  | 27 => [0, 9, 10, 12, 91]
  | 28 => [0, 9, 10, 12]
  | 29 => [0, 9, 10, 11, 12]
  | 30 => [0, 9, 10, 11, 98]
  | 31 => [9]
  | 32 => [2]
  | _ => []
@[simp] def md110 : Nat → Bool
  | 18 => true
  | 27 => true
  | _ => false
@[simp] def od110 : Nat → List (List Nat)
  | _ => []
@[simp] def fp110 : FPol := { inpl := [], exp := false, sites := [2150], mut_ := [], split := false }
@[simp] def keep111 : Nat → List Nat
  | 0 => [0, 1]
  | 1 => [3]
  | _ => []
@[simp] def md111 : Nat → Bool
  | _ => false
@[simp] def od111 : Nat → List (List Nat)
  | 1 => [[2], [2], [0, 1], [], []]
  | _ => []
@[simp] def fp111 : FPol := { inpl := [], exp := false, sites := [], mut_ := [], split := false }
@[simp] def keep112 : Nat → List Nat
  | 0 => [0]
  | 1 => [0, 3]
  | 2 => [2]
  | 3 => [0, 9]
  | 4 => [2]
  | 5 => [2]
  | _ => []
@[simp] def md112 : Nat → Bool
  | _ => false
@[simp] def od112 : Nat → List (List Nat)
  | _ => []
@[simp] def fp112 : FPol := { inpl := [], exp := false, sites := [], mut_ := [], split := false }
@[simp] def keep113 : Nat → List Nat
  | 0 => [0, 2]
  | 1 => [0, 2, 3]
  | 2 => [0, 2, 3, 4, 5]
  | 3 => [0, 2, 3, 4, 15]
  | 4 => [2, 3]
  | 5 => [2]
  | 6 => [0, 2, 3, 20]
  | 7 => [2]
  | 8 => [2, 3, 6]
  | 9 => [2, 3, 6]
  | 10 => [2, 3, 6, 32]
  | 11 => [2, 3]
  | 12 => [2]
  | _ => []
@[simp] def md113 : Nat → Bool
  | _ => false
@[simp] def od113 : Nat → List (List Nat)
  | _ => []
@[simp] def fp113 : FPol := { inpl := [1], exp := false, sites := [200, 250, 400], mut_ := [], split := false }
@[simp] def keep114 : Nat → List Nat
  | 0 => [0]
  | 1 => [0, 4]
  | 2 => [2, 3]
  | 3 => [0, 7]
  | 4 => [2, 3]
  | 5 => [2, 3]
  | _ => []
@[simp] def md114 : Nat → Bool
  | _ => false
@[simp] def od114 : Nat → List (List Nat)
  | _ => []
@[simp] def fp114 : FPol := { inpl := [1], exp := false, sites := [], mut_ := [], split := false }
@[simp] def keep115 : Nat → List Nat
  | 0 => [0, 1]
  | 1 => [0, 1, 7, 8]
  | 2 => [0, 1, 7, 8, 9]
  | 3 => [0, 1, 5, 7, 8]
  | 4 => [0, 1, 5, 7, 8, 16]
  | 5 => [4]
  | 6 => [0, 1, 7, 8]
  | 7 => [4]
  | _ => []
@[simp] def md115 : Nat → Bool
  | _ => false
@[simp] def od115 : Nat → List (List Nat)
  | _ => []
@[simp] def fp115 : FPol := { inpl := [1], exp := false, sites := [], mut_ := [], split := false }
@[simp] def keep116 : Nat → List Nat
  | 0 => [0]
  | 1 => [0, 13]
  | 2 => []
  | _ => []
@[simp] def md116 : Nat → Bool
  | _ => false
@[simp] def od116 : Nat → List (List Nat)
  | _ => []
@[simp] def fp116 : FPol := { inpl := [1], exp := false, sites := [], mut_ := [], split := false }
@[simp] def keep117 : Nat → List Nat
  | 0 => [0, 2]
  | 1 => [0, 2, 7]
  | 2 => [2]
  | 3 => [0, 2, 12]
  | 4 => [2]
  | 5 => [0, 2, 17]
  | 6 => [2]
  | 7 => [0, 2, 22]
  | 8 => [0, 2, 3]
  | 9 => [0, 2, 3]
  | 10 => [0, 2, 3]
  | 11 => [2, 3]
  | 12 => [2]
  | 13 => [0, 2, 38]
  | 14 => [0, 2, 4]
  | 15 => [0, 2, 4]
  | 16 => [0, 2, 4]
  | 17 => [2, 4]
  | 18 => [2]
  | 19 => [0, 2, 54]
  | 20 => [2]
  | 21 => [0, 2, 58]
  | 22 => [2]
  | 23 => [0, 2, 5]
  | 24 => [0, 2, 5, 65]
  | 25 => [2]
  | 26 => [0, 2, 5, 6]
  | 27 => [0, 2, 5, 6, 76]
  | 28 => [0, 2, 6]
  | 29 => [0, 2, 6]
  | 30 => [2]
  | _ => []
@[simp] def md117 : Nat → Bool
  | _ => false
@[simp] def od117 : Nat → List (List Nat)
  | 28 => [[2, 3, 4, 5, 6], [2, 3, 4, 5, 6], [0, 1, 5, 6], [0, 1, 5, 6], [0, 1, 5, 6], [0, 1, 2, 3, 4], [0, 1, 2, 3, 4], [], []]
  | 30 => [[1, 2], [0], [0], [], []]
  | _ => []
@[simp] def fp117 : FPol := { inpl := [1], exp := false, sites := [200, 250, 300, 350, 400], mut_ := [], split := false }
@[simp] def keep118 : Nat → List Nat
  | 0 => []
  | _ => []
@[simp] def md118 : Nat → Bool
  | _ => false
@[simp] def od118 : Nat → List (List Nat)
  | _ => []
@[simp] def fp118 : FPol := { inpl := [1], exp := false, sites := [], mut_ := [], split := false }
@[simp] def keep123 : Nat → List Nat
  | 0 => [0, 1]
  | 1 => [0, 1, 10]
  | 2 => [4]
  | 3 => [0, 1, 12, 13]
  | 4 => [0, 1, 12, 13, 14]
  | 5 => [0, 1, 5, 12, 13]
  | 6 => [0, 1, 12, 13, 24]
  | 7 => [4]
  | 8 => [0, 1, 12, 13]
  | 9 => [4]
  | _ => []
@[simp] def md123 : Nat → Bool
  | _ => false
@[simp] def od123 : Nat → List (List Nat)
  | 6 => [[1, 4, 5, 6, 7], [0, 4, 5, 6, 7], [4, 5, 6, 7], [4, 5, 6, 7], [0, 1, 2, 3, 5], [0, 1, 2, 3, 4], [0, 1, 2, 3], [0, 1, 2, 3], []]
  | _ => []
@[simp] def fp123 : FPol := { inpl := [], exp := false, sites := [], mut_ := [], split := false }
@[simp] def keep137 : Nat → List Nat
  | 0 => [0]
  | 1 => [2]
  | _ => []
@[simp] def md137 : Nat → Bool
  | _ => false
@[simp] def od137 : Nat → List (List Nat)
  | _ => []
@[simp] def fp137 : FPol := { inpl := [], exp := false, sites := [], mut_ := [], split := false }
@[simp] def keep138 : Nat → List Nat
  | 0 => [0, 1]
  | 1 => [0, 1, 5, 6]
  | 2 => [0, 1, 5, 6, 7]
  | 3 => [0, 1, 5, 6, 7, 8]
  | 4 => [0, 1, 5, 6, 7, 8, 9]
  | 5 => [0, 1, 5, 6, 7, 8, 9, 20]
  | 6 => [0, 1, 5, 6, 7, 8, 9]
  | 7 => [0, 1, 5, 6, 7, 8, 9]
  | 8 => [0, 1, 5, 6, 7, 8, 39]
  | 9 => [4]
  | 10 => [0, 1, 5, 6, 7, 8, 10]
  | 11 => [0, 1, 5, 6, 7, 8, 10, 44]
  | 12 => [0, 1, 5, 6, 7, 8, 10]
  | 13 => [0, 1, 5, 6, 7, 8, 10]
  | 14 => [0, 1, 5, 6, 7, 8, 10]
  | 15 => [0, 1, 5, 6, 7, 8, 10]
  | 16 => [0, 1, 5, 6, 7, 8, 10, 77]
  | 17 => [4]
  | 18 => [4]
  | _ => []
@[simp] def md138 : Nat → Bool
  | 8 => true
  | 16 => true
  | _ => false
@[simp] def od138 : Nat → List (List Nat)
  | _ => []
@[simp] def fp138 : FPol := { inpl := [], exp := false, sites := [], mut_ := [], split := false }
@[simp] def keep139 : Nat → List Nat
  | 0 => [0, 1]
  | 1 => [0, 1, 7, 8]
  | 2 => [0, 1, 7, 8, 9]
  | 3 => [0, 1, 5, 7, 8]
  | 4 => [0, 1, 5, 7, 8, 16]
  | 5 => [4]
  | 6 => [0, 1, 7, 8]
  | 7 => [4]
  | _ => []
@[simp] def md139 : Nat → Bool
  | _ => false
@[simp] def od139 : Nat → List (List Nat)
  | _ => []
@[simp] def fp139 : FPol := { inpl := [], exp := false, sites := [], mut_ := [], split := false }
@[simp] def keep140 : Nat → List Nat
  | 0 => [0]
  | 1 => [0, 5]
  | 2 => [6]
  | 3 => [6, 7]
  | 4 => [6, 7]
  | 5 => [6, 7]
  | 6 => [6, 7]
  | 7 => [6, 7]
  | 8 => [6, 7]
  | 9 => [6, 7]
  | 10 => [7]
  | 11 => [2]
  | 12 => [2]
  | 13 => [2]
  | _ => []
@[simp] def md140 : Nat → Bool
  | _ => false
@[simp] def od140 : Nat → List (List Nat)
  | _ => []
@[simp] def fp140 : FPol := { inpl := [], exp := false, sites := [], mut_ := [], split := false }
@[simp] def keep141 : Nat → List Nat
  | 0 => [0]
  | 1 => [0, 4]
  | 2 => [2, 3]
  | 3 => [7]
  | 4 => [2, 3]
  | 5 => [2, 3]
  | _ => []
@[simp] def md141 : Nat → Bool
  | _ => false
@[simp] def od141 : Nat → List (List Nat)
  | _ => []
@[simp] def fp141 : FPol := { inpl := [1], exp := false, sites := [], mut_ := [], split := false }
@[simp] def keep142 : Nat → List Nat
  | 0 => [0, 3, 4]
  | 1 => [0, 3, 4]
  | 2 => [0, 3, 4]
  | 3 => [0, 3, 4]
  | 4 => [0, 3, 4, 5]
  | 5 => [0, 3, 4, 5, 27]
  | 6 => [0, 3, 4, 5]
  | 7 => [0, 3, 4]
  | 8 => [0, 3, 4]
  | 9 => [0, 3, 4]
  | 10 => [0, 3, 4, 6, 7]
  | 11 => [0, 3, 4, 6, 44]
  | 12 => [3, 4, 6]
  | 13 => [3, 4]
  | 14 => [4]
  | _ => []
@[simp] def md142 : Nat → Bool
  | _ => false
@[simp] def od142 : Nat → List (List Nat)
  | 7 => [[2, 3], [2, 3], [0, 1], [0, 1], [], []]
  | _ => []
@[simp] def fp142 : FPol := { inpl := [1], exp := false, sites := [250, 300, 350], mut_ := [], split := false }
@[simp] def keep143 : Nat → List Nat
  | 0 => [1]
  | 1 => [1, 3]
  | 2 => [3, 4]
  | 3 => [3, 4, 10]
  | 4 => [2]
  | 5 => [2]
  | _ => []
@[simp] def md143 : Nat → Bool
  | _ => false
@[simp] def od143 : Nat → List (List Nat)
  | _ => []
@[simp] def fp143 : FPol := { inpl := [], exp := false, sites := [150], mut_ := [], split := false }
@[simp] def keep144 : Nat → List Nat
  | 0 => [0]
  | 1 => [0, 4]
  | 2 => [2]
  | 3 => [2]
  | _ => []
@[simp] def md144 : Nat → Bool
  | _ => false
@[simp] def od144 : Nat → List (List Nat)
  | _ => []
@[simp] def fp144 : FPol := { inpl := [1], exp := false, sites := [], mut_ := [], split := false }
@[simp] def keep145 : Nat → List Nat
  | 0 => [0, 2]
  | 1 => [0, 2, 3]
  | 2 => [0, 2, 3]
  | 3 => [0, 2, 3]
  | 4 => [0, 2, 3]
  | 5 => [0, 2, 3, 24]
  | 6 => [0, 2, 3, 26]
  | 7 => [0, 2, 3]
  | 8 => [2, 3]
  | 9 => [2]
  | _ => []
@[simp] def md145 : Nat → Bool
  | _ => false
@[simp] def od145 : Nat → List (List Nat)
  | 2 => [[2, 3, 4], [2, 3, 4], [0, 1], [0, 1], [0, 1], [], [], []]
  | 4 => [[2, 3, 4, 5], [2, 3, 4, 5], [0, 1, 3], [0, 1, 2], [0, 1], [0, 1], [], [], []]
  | 7 => [[2, 3, 4, 5], [2, 3, 4, 5], [0, 1, 3], [0, 1, 2], [0, 1], [0, 1], [], [], []]
  | _ => []
@[simp] def gh145 : Nat → List Gh
  | 1 => [.adopt 250 14 251 6, .adopt 250 17 252 1]
  | _ => []
@[simp] def fp145 : FPol := { inpl := [1], exp := false, sites := [200, 250, 251, 252], mut_ := [], split := false }
@[simp] def keep146 : Nat → List Nat
  | 0 => [0, 2]
  | 1 => [0, 2, 3]
  | 2 => [0, 2, 3]
  | 3 => [0, 2, 3, 11]
  | 4 => [0, 2, 3]
  | 5 => [0, 2, 3, 4]
  | 6 => [0, 2, 3, 4, 31]
  | 7 => [0, 2, 3, 4]
  | 8 => [0, 2, 3]
  | 9 => [0, 2, 3, 44]
  | 10 => [0, 2, 3]
  | 11 => [2, 3]
  | 12 => [2]
  | _ => []
@[simp] def md146 : Nat → Bool
  | 6 => true
  | _ => false
@[simp] def od146 : Nat → List (List Nat)
  | 4 => [[2, 3, 4], [2, 3, 4], [0, 1], [0, 1], [0, 1], [], [], []]
  | 10 => [[2, 3, 4, 5], [2, 3, 4, 5], [0, 1, 3], [0, 1, 2], [0, 1], [0, 1], [], [], []]
  | _ => []
@[simp] def gh146 : Nat → List Gh
  | 1 => [.adopt 250 15 251 1, .adopt 250 17 252 1]
  | 1000002 => [.freeze 300]
  | _ => []
@[simp] def fp146 : FPol := { inpl := [1], exp := false, sites := [200, 250, 251, 252, 300], mut_ := [], split := false }
@[simp] def keep147 : Nat → List Nat
  | 0 => [0, 2]
  | 1 => [0, 2, 3]
  | 2 => [0, 2, 3]
  | 3 => [0, 2, 3, 4]
  | 4 => [0, 2, 3, 4]
  | 5 => [0, 2, 3]
  | 6 => [0, 2, 3, 5]
  | 7 => [0, 2, 3, 5, 26]
  | 8 => [0, 2, 3, 5]
  | 9 => [0, 2, 3]
  | 10 => [0, 2, 3]
  | 11 => [0, 2, 3]
  | 12 => [2, 3]
  | 13 => [2]
  | _ => []
@[simp] def md147 : Nat → Bool
  | _ => false
@[simp] def od147 : Nat → List (List Nat)
  | 5 => [[1, 2], [0], [0], [], [], []]
  | _ => []
@[simp] def fp147 : FPol := { inpl := [1], exp := false, sites := [200, 250, 300, 350, 1050], mut_ := [], split := false }
@[simp] def keep148 : Nat → List Nat
  | 0 => [0, 2]
  | 1 => [2]
  | _ => []
@[simp] def md148 : Nat → Bool
  | _ => false
@[simp] def od148 : Nat → List (List Nat)
  | _ => []
@[simp] def fp148 : FPol := { inpl := [1], exp := false, sites := [200], mut_ := [], split := false }
@[simp] def keep149 : Nat → List Nat
  | 0 => [0, 1, 4]
  | 1 => [0, 4, 5]
  | 2 => [0, 4, 5, 9]
  | 3 => [4]
  | 4 => [0, 4, 5]
  | 5 => [0, 4, 5]
  | 6 => [0, 4, 5]
  | 7 => [0, 4, 5, 30]
  | 8 => [4, 5]
  | 9 => [4]
  | _ => []
@[simp] def md149 : Nat → Bool
  | _ => false
@[simp] def od149 : Nat → List (List Nat)
  | 4 => [[2, 3, 4, 5], [2, 3, 4, 5], [0, 1], [0, 1], [0, 1], [0, 1], [], [], []]
  | 6 => [[2, 3, 4], [2, 3, 4], [0, 1], [0, 1], [0, 1], [], [], []]
  | _ => []
@[simp] def gh149 : Nat → List Gh
  | 1 => [.adopt 350 14 351 6, .adopt 350 16 352 1]
  | _ => []
@[simp] def fp149 : FPol := { inpl := [1], exp := false, sites := [300, 350, 351, 352], mut_ := [], split := false }
@[simp] def keep150 : Nat → List Nat
  | 0 => [0, 2]
  | 1 => [0, 2]
  | 2 => [0, 2]
  | 3 => [0, 2, 3]
  | 4 => [0, 2, 3]
  | 5 => [2, 3]
  | 6 => [2]
  | _ => []
@[simp] def md150 : Nat → Bool
  | _ => false
@[simp] def od150 : Nat → List (List Nat)
  | _ => []
@[simp] def fp150 : FPol := { inpl := [1], exp := false, sites := [200, 250], mut_ := [], split := false }
@[simp] def keep157 : Nat → List Nat
  | 0 => [0]
  | 1 => [0, 4]
  | 2 => [0, 4, 5]
  | 3 => [0, 4, 5, 12]
  | 4 => [0, 4, 5]
  | 5 => [0, 4, 5]
  | 6 => [0, 4, 6, 7]
  | 7 => [4, 6, 7, 8]
  | 8 => [4, 6, 7, 8, 25]
  | 9 => [4, 6, 7, 8]
  | 10 => [4, 6, 7, 8, 30]
  | 11 => [4, 6, 7, 8]
  | 12 => [4, 6, 7, 8]
  | 13 => [2, 3]
  | _ => []
@[simp] def md157 : Nat → Bool
  | _ => false
@[simp] def od157 : Nat → List (List Nat)
  | _ => []
@[simp] def fp157 : FPol := { inpl := [], exp := false, sites := [], mut_ := [], split := false }
@[simp] def keep158 : Nat → List Nat
  | 0 => [0, 1]
  | 1 => [0, 1, 5]
  | 2 => [0, 1, 5, 6]
  | 3 => [0, 1, 5, 6, 32]
  | 4 => [4]
  | 5 => [1, 7]
  | 6 => [1, 7, 54]
  | 7 => [4]
  | 8 => [4]
  | _ => []
@[simp] def md158 : Nat → Bool
  | 3 => true
  | 6 => true
  | _ => false
@[simp] def od158 : Nat → List (List Nat)
  | _ => []
@[simp] def fp158 : FPol := { inpl := [], exp := false, sites := [], mut_ := [], split := false }
@[simp] def keep159 : Nat → List Nat
  | 0 => []
  | 1 => [0]
  | _ => []
@[simp] def md159 : Nat → Bool
  | _ => false
@[simp] def od159 : Nat → List (List Nat)
  | _ => []
@[simp] def fp159 : FPol := { inpl := [], exp := false, sites := [], mut_ := [], split := false }
@[simp] def keep160 : Nat → List Nat
  | 0 => [0, 1]
  | 1 => [0, 1, 7, 8]
  | 2 => [0, 1, 7, 8, 9]
  | 3 => [0, 1, 5, 7, 8]
  | 4 => [0, 1, 5, 7, 8, 16]
  | 5 => [4]
  | 6 => [0, 1, 7, 8]
  | 7 => [4]
  | _ => []
@[simp] def md160 : Nat → Bool
  | _ => false
@[simp] def od160 : Nat → List (List Nat)
  | _ => []
@[simp] def fp160 : FPol := { inpl := [], exp := false, sites := [], mut_ := [], split := false }
@[simp] def keep161 : Nat → List Nat
  | 0 => [1, 2]
  | 1 => [3]
  | _ => []
@[simp] def md161 : Nat → Bool
  | _ => false
@[simp] def od161 : Nat → List (List Nat)
  | _ => []
@[simp] def fp161 : FPol := { inpl := [], exp := false, sites := [200], mut_ := [], split := false }
@[simp] def keep162 : Nat → List Nat
  | 0 => [0]
  | 1 => [2]
  | _ => []
@[simp] def md162 : Nat → Bool
  | 1 => true
  | _ => false
@[simp] def od162 : Nat → List (List Nat)
  | _ => []
@[simp] def fp162 : FPol := { inpl := [1], exp := false, sites := [], mut_ := [], split := false }
@[simp] def keep163 : Nat → List Nat
  | 0 => [0]
  | 1 => [0, 3]
  | 2 => [0, 3, 4]
  | 3 => [0, 3, 4, 5]
  | 4 => [0, 3, 4, 5, 10]
  | 5 => [0, 3, 4, 5]
  | 6 => [0, 3]
  | 7 => [0, 3, 20]
  | 8 => [3]
  | 9 => [2]
  | _ => []
@[simp] def md163 : Nat → Bool
  | _ => false
@[simp] def od163 : Nat → List (List Nat)
  | _ => []
@[simp] def fp163 : FPol := { inpl := [1], exp := false, sites := [250], mut_ := [], split := false }
@[simp] def keep164 : Nat → List Nat
  | 0 => [0, 1, 4]
  | 1 => [0, 1, 4, 5]
  | 2 => [0, 1, 4, 5, 12]
  | 3 => [4]
  | 4 => [0, 1, 4, 5, 6]
  | 5 => [0, 1, 4, 5, 6, 25]
  | 6 => [0, 1, 4, 5, 6, 7]
  | 7 => [0, 1, 4, 5, 6]
  | 8 => [0, 1, 4, 5, 6, 41]
  | 9 => [4]
  | _ => []
@[simp] def md164 : Nat → Bool
  | _ => false
@[simp] def od164 : Nat → List (List Nat)
  | 7 => [[3, 4, 5, 6, 9, 10], [3, 4, 5, 6, 9, 10], [3, 4, 5, 6, 9, 10], [0, 1, 2, 4, 5, 6, 7, 9, 10], [0, 1, 2, 3, 5, 6, 9, 10], [0, 1, 2, 3, 4, 9, 10], [0, 1, 2, 3, 4, 9, 10], [3, 9, 10], [9, 10], [0, 1, 2, 3, 4, 5, 6, 7, 8], [0, 1, 2, 3, 4, 5, 6, 7, 8], [], []]
  | _ => []
@[simp] def fp164 : FPol := { inpl := [1], exp := false, sites := [300, 400, 450], mut_ := [], split := false }
@[simp] def keep172 : Nat → List Nat
  | 0 => [0, 1]
  | 1 => [0, 1, 17]
  | 2 => [0, 1, 19, 20]
  | 3 => [0, 1, 19, 20, 21]
  | 4 => [0, 1, 5, 19, 20]
  | 5 => [0, 1, 6, 19, 20]
  | 6 => [0, 1, 6, 19, 20, 31]
  | 7 => [4]
  | 8 => [0, 1, 6, 19, 20, 37]
  | 9 => [4]
  | 10 => [0, 1, 19, 20]
  | 11 => [4]
  | 12 => [0, 1, 7]
  | 13 => [0, 1, 7, 8]
  | 14 => [0, 1, 7, 8, 62]
  | 15 => [0, 1, 7, 8, 9]
  | 16 => [0, 1, 7, 8, 9, 10]
  | 17 => [0, 1, 7, 8, 9, 10, 85]
  | 18 => [4]
  | 19 => [0, 1, 7, 8, 9, 110]
  | 20 => [0, 1, 7, 8]
  | 21 => [0, 1, 7, 8]
  | 22 => [4]
  | _ => []
@[simp] def md172 : Nat → Bool
  | _ => false
@[simp] def od172 : Nat → List (List Nat)
  | 9 => [[], [], [], [], [], [], [7, 8, 9, 10, 12, 13, 14, 15], [6, 12, 13, 14, 15], [6, 12, 13, 14, 15], [6, 12, 13, 14, 15], [6, 12, 13, 14, 15], [12, 13, 14, 15], [6, 7, 8, 9, 10, 11], [6, 7, 8, 9, 10, 11], [6, 7, 8, 9, 10, 11], [6, 7, 8, 9, 10, 11], [], [], [], []]
  | 18 => [[], [], [], [], [], [], [7, 8, 9, 10, 12, 13, 14, 15], [6, 12, 13, 14, 15], [6, 12, 13, 14, 15], [6, 12, 13, 14, 15], [6, 12, 13, 14, 15], [12, 13, 14, 15], [6, 7, 8, 9, 10, 11], [6, 7, 8, 9, 10, 11], [6, 7, 8, 9, 10, 11], [6, 7, 8, 9, 10, 11], [], [], [], []]
  | _ => []
@[simp] def fp172 : FPol := { inpl := [], exp := false, sites := [], mut_ := [], split := false }
@[simp] def keep173 : Nat → List Nat
  | 0 => [0, 1]
  | 1 => [0, 1, 13]
  | 2 => [0, 1, 15, 16]
  | 3 => [0, 1, 15, 16, 17]
  | 4 => [0, 1, 5, 15, 16]
  | 5 => [0, 1, 6, 15, 16]
  | 6 => [0, 1, 6, 15, 16, 27]
  | 7 => [4]
  | 8 => [0, 1, 6, 15, 16, 33]
  | 9 => [4]
  | 10 => [0, 1, 15, 16]
  | 11 => [4]
  | 12 => [0, 1, 7]
  | 13 => [0, 1, 7, 8]
  | 14 => [0, 1, 7, 8, 58]
  | 15 => [0, 1, 7, 8, 9]
  | 16 => [0, 1, 7, 8, 9, 10]
  | 17 => [0, 1, 7, 8, 9, 10, 78]
  | 18 => [4]
  | 19 => [0, 1, 7, 8, 9, 95]
  | 20 => [0, 1, 7, 8]
  | 21 => [0, 1, 7, 8]
  | 22 => [4]
  | _ => []
@[simp] def md173 : Nat → Bool
  | _ => false
@[simp] def od173 : Nat → List (List Nat)
  | 9 => [[], [], [], [], [], [], [7, 8, 9, 10, 12, 13, 14, 15], [6, 12, 13, 14, 15], [6, 12, 13, 14, 15], [6, 12, 13, 14, 15], [6, 12, 13, 14, 15], [12, 13, 14, 15], [6, 7, 8, 9, 10, 11], [6, 7, 8, 9, 10, 11], [6, 7, 8, 9, 10, 11], [6, 7, 8, 9, 10, 11], [], [], [], []]
  | _ => []
@[simp] def fp173 : FPol := { inpl := [], exp := false, sites := [600], mut_ := [], split := false }
@[simp] def keep174 : Nat → List Nat
  | 0 => []
  | 1 => [0]
  | _ => []
@[simp] def md174 : Nat → Bool
  | _ => false
@[simp] def od174 : Nat → List (List Nat)
  | _ => []
@[simp] def fp174 : FPol := { inpl := [], exp := false, sites := [], mut_ := [], split := false }
@[simp] def keep175 : Nat → List Nat
  | 0 => [0, 2]
  | 1 => [0, 2, 3]
  | 2 => [0, 2, 3]
  | 3 => [2]
  | 4 => [0, 2, 3, 10]
  | 5 => [0, 2, 3, 4]
  | 6 => [0, 2, 3, 13]
  | 7 => [0, 2, 3, 4]
  | 8 => [0, 2, 3, 4]
  | 9 => [0, 2, 3, 4]
  | 10 => [0, 2, 5]
  | 11 => [2, 5]
  | 12 => [2]
  | _ => []
@[simp] def md175 : Nat → Bool
  | _ => false
@[simp] def od175 : Nat → List (List Nat)
  | 10 => [[1, 2, 3, 4, 5, 7], [0, 4, 5, 7], [0, 4, 5, 7], [0, 4, 5, 7], [0, 1, 2, 3, 7], [0, 1, 2, 3, 7], [7], [0, 1, 2, 3, 4, 5, 6], []]
  | _ => []
@[simp] def fp175 : FPol := { inpl := [1], exp := false, sites := [200, 250, 350], mut_ := [], split := false }
@[simp] def keep176 : Nat → List Nat
  | 0 => [0]
  | 1 => [0, 3]
  | 2 => [2]
  | _ => []
@[simp] def md176 : Nat → Bool
  | _ => false
@[simp] def od176 : Nat → List (List Nat)
  | _ => []
@[simp] def fp176 : FPol := { inpl := [], exp := false, sites := [], mut_ := [], split := false }
@[simp] def keep181 : Nat → List Nat
  | 0 => [0, 2]
  | 1 => [0, 2, 3]
  | 2 => [0, 2, 3, 7]
  | 3 => [2]
  | 4 => [0, 2, 3, 17]
  | 5 => [2]
  | 6 => [0, 2, 3, 23]
  | 7 => [2]
  | 8 => [0, 2, 3, 29]
  | 9 => [0, 2]
  | 10 => [0, 2]
  | 11 => [0, 2, 4]
  | 12 => [0, 2, 4]
  | 13 => [2, 4]
  | 14 => [2]
  | 15 => [0, 2, 3]
  | 16 => [0, 2, 3, 45]
  | 17 => [2]
  | 18 => [0, 2, 3, 56]
  | 19 => [2]
  | 20 => [2]
  | _ => []
@[simp] def md181 : Nat → Bool
  | _ => false
@[simp] def od181 : Nat → List (List Nat)
  | 3 => [[3, 4], [3, 4], [3, 4], [0, 1, 2], [0, 1, 2], [], []]
  | 17 => [[2, 3, 4, 5, 6], [2, 3, 4, 5, 6], [0, 1, 5, 6], [0, 1, 5, 6], [0, 1, 5, 6], [0, 1, 2, 3, 4], [0, 1, 2, 3, 4], [], []]
  | 19 => [[2, 3, 4, 5, 6], [2, 3, 4, 5, 6], [0, 1, 5, 6], [0, 1, 5, 6], [0, 1, 5, 6], [0, 1, 2, 3, 4], [0, 1, 2, 3, 4], [], []]
  | _ => []
@[simp] def fp181 : FPol := { inpl := [1], exp := false, sites := [200, 250, 300], mut_ := [], split := false }
def od9 : Nat → List (List Nat)
  | 7 => [[2], [2], [0, 1], [], [], [], [7], [6], [], [], [], [12], [11], [], [], []]
  | _ => []
def od15 : Nat → List (List Nat)
  | 30 => [[3, 4, 5, 6, 7, 8, 9, 10, 11, 12, 13, 14, 16, 17, 18, 19, 20, 21, 22, 23, 24, 25, 26, 27, 28, 29, 30, 31, 32, 33, 34, 35, 36, 37, 38, 39, 41], [3, 4, 5, 6, 7, 8, 9, 10, 11, 12, 13, 14, 16, 17, 18, 19, 20, 21, 22, 23, 24, 25, 26, 27, 28, 29, 30, 31, 32, 33, 34, 35, 36, 37, 38, 39, 41], [3, 4, 5, 6, 7, 8, 9, 10, 11, 12, 13, 14, 16, 17, 18, 19, 20, 21, 22, 23, 24, 25, 26, 27, 28, 29, 30, 31, 32, 33, 34, 35, 36, 37, 38, 39, 41], [0, 1, 2, 6, 7, 8, 9, 10, 11, 12, 13, 14, 16, 17, 18, 19, 20, 21, 22, 23, 24, 25, 26, 27, 28, 29, 30, 31, 32, 33, 34, 35, 36, 37, 38, 39, 41], [0, 1, 2, 6, 7, 8, 9, 10, 11, 12, 13, 14, 16, 17, 18, 19, 20, 21, 22, 23, 24, 25, 26, 27, 28, 29, 30, 31, 32, 33, 34, 35, 36, 37, 38, 39, 41], [0, 1, 2, 6, 7, 8, 9, 10, 11, 12, 13, 14, 16, 17, 18, 19, 20, 21, 22, 23, 24, 25, 26, 27, 28, 29, 30, 31, 32, 33, 34, 35, 36, 37, 38, 39, 41], [0, 1, 2, 3, 4, 5, 9, 10, 11, 12, 13, 14, 16, 17, 18, 19, 20, 21, 22, 23, 24, 25, 26, 27, 28, 29, 30, 31, 32, 33, 34, 35, 36, 37, 38, 39, 41], [0, 1, 2, 3, 4, 5, 9, 10, 11, 12, 13, 14, 16, 17, 18, 19, 20, 21, 22, 23, 24, 25, 26, 27, 28, 29, 30, 31, 32, 33, 34, 35, 36, 37, 38, 39, 41], [0, 1, 2, 3, 4, 5, 9, 10, 11, 12, 13, 14, 16, 17, 18, 19, 20, 21, 22, 23, 24, 25, 26, 27, 28, 29, 30, 31, 32, 33, 34, 35, 36, 37, 38, 39, 41], [0, 1, 2, 3, 4, 5, 6, 7, 8, 12, 13, 14, 16, 17, 18, 19, 20, 21, 22, 23, 24, 25, 26, 27, 28, 29, 30, 31, 32, 33, 34, 35, 36, 37, 38, 39, 41], [0, 1, 2, 3, 4, 5, 6, 7, 8, 12, 13, 14, 16, 17, 18, 19, 20, 21, 22, 23, 24, 25, 26, 27, 28, 29, 30, 31, 32, 33, 34, 35, 36, 37, 38, 39, 41], [0, 1, 2, 3, 4, 5, 6, 7, 8, 12, 13, 14, 16, 17, 18, 19, 20, 21, 22, 23, 24, 25, 26, 27, 28, 29, 30, 31, 32, 33, 34, 35, 36, 37, 38, 39, 41], [0, 1, 2, 3, 4, 5, 6, 7, 8, 9, 10, 11, 16, 17, 18, 19, 20, 21, 22, 23, 24, 25, 26, 27, 28, 29, 30, 31, 32, 33, 34, 35, 36, 37, 38, 39, 41], [0, 1, 2, 3, 4, 5, 6, 7, 8, 9, 10, 11, 16, 17, 18, 19, 20, 21, 22, 23, 24, 25, 26, 27, 28, 29, 30, 31, 32, 33, 34, 35, 36, 37, 38, 39, 41], [0, 1, 2, 3, 4, 5, 6, 7, 8, 9, 10, 11, 16, 17, 18, 19, 20, 21, 22, 23, 24, 25, 26, 27, 28, 29, 30, 31, 32, 33, 34, 35, 36, 37, 38, 39, 41], [16, 17, 18, 19, 20, 21, 22, 23, 24, 25, 26, 27, 28, 29, 30, 31, 32, 33, 34, 35, 36, 37, 38, 39, 41], [0, 1, 2, 3, 4, 5, 6, 7, 8, 9, 10, 11, 12, 13, 14, 15, 20, 21, 22, 23, 24, 25, 26, 27, 28, 29, 30, 31, 33, 34, 35, 37, 38, 39, 41], [0, 1, 2, 3, 4, 5, 6, 7, 8, 9, 10, 11, 12, 13, 14, 15, 20, 21, 22, 23, 24, 25, 26, 27, 28, 29, 30, 31, 33, 34, 35, 37, 38, 39, 41], [0, 1, 2, 3, 4, 5, 6, 7, 8, 9, 10, 11, 12, 13, 14, 15, 20, 21, 22, 23, 24, 25, 26, 27, 28, 29, 30, 31, 33, 34, 35, 37, 38, 39, 41], [0, 1, 2, 3, 4, 5, 6, 7, 8, 9, 10, 11, 12, 13, 14, 15, 20, 21, 22, 23, 24, 25, 26, 27, 28, 29, 30, 31, 33, 34, 35, 37, 38, 39, 41], [0, 1, 2, 3, 4, 5, 6, 7, 8, 9, 10, 11, 12, 13, 14, 15, 16, 17, 18, 19, 23, 24, 25, 26, 27, 28, 29, 30, 31, 32, 33, 34, 35, 36, 37, 38, 39, 41], [0, 1, 2, 3, 4, 5, 6, 7, 8, 9, 10, 11, 12, 13, 14, 15, 16, 17, 18, 19, 23, 24, 25, 26, 27, 28, 29, 30, 31, 32, 33, 34, 35, 36, 37, 38, 39, 41], [0, 1, 2, 3, 4, 5, 6, 7, 8, 9, 10, 11, 12, 13, 14, 15, 16, 17, 18, 19, 23, 24, 25, 26, 27, 28, 29, 30, 31, 32, 33, 34, 35, 36, 37, 38, 39, 41], [0, 1, 2, 3, 4, 5, 6, 7, 8, 9, 10, 11, 12, 13, 14, 15, 16, 17, 18, 19, 20, 21, 22, 26, 27, 28, 29, 30, 31, 32, 33, 34, 35, 36, 37, 38, 39, 41], [0, 1, 2, 3, 4, 5, 6, 7, 8, 9, 10, 11, 12, 13, 14, 15, 16, 17, 18, 19, 20, 21, 22, 26, 27, 28, 29, 30, 31, 32, 33, 34, 35, 36, 37, 38, 39, 41], [0, 1, 2, 3, 4, 5, 6, 7, 8, 9, 10, 11, 12, 13, 14, 15, 16, 17, 18, 19, 20, 21, 22, 26, 27, 28, 29, 30, 31, 32, 33, 34, 35, 36, 37, 38, 39, 41], [0, 1, 2, 3, 4, 5, 6, 7, 8, 9, 10, 11, 12, 13, 14, 15, 16, 17, 18, 19, 20, 21, 22, 23, 24, 25, 29, 30, 31, 32, 33, 34, 35, 36, 37, 38, 39, 41], [0, 1, 2, 3, 4, 5, 6, 7, 8, 9, 10, 11, 12, 13, 14, 15, 16, 17, 18, 19, 20, 21, 22, 23, 24, 25, 29, 30, 31, 32, 33, 34, 35, 36, 37, 38, 39, 41], [0, 1, 2, 3, 4, 5, 6, 7, 8, 9, 10, 11, 12, 13, 14, 15, 16, 17, 18, 19, 20, 21, 22, 23, 24, 25, 29, 30, 31, 32, 33, 34, 35, 36, 37, 38, 39, 41], [0, 1, 2, 3, 4, 5, 6, 7, 8, 9, 10, 11, 12, 13, 14, 15, 16, 17, 18, 19, 20, 21, 22, 23, 24, 25, 26, 27, 28, 33, 34, 35, 37, 38, 39, 41], [0, 1, 2, 3, 4, 5, 6, 7, 8, 9, 10, 11, 12, 13, 14, 15, 16, 17, 18, 19, 20, 21, 22, 23, 24, 25, 26, 27, 28, 33, 34, 35, 37, 38, 39, 41], [0, 1, 2, 3, 4, 5, 6, 7, 8, 9, 10, 11, 12, 13, 14, 15, 16, 17, 18, 19, 20, 21, 22, 23, 24, 25, 26, 27, 28, 33, 34, 35, 37, 38, 39, 41], [0, 1, 2, 3, 4, 5, 6, 7, 8, 9, 10, 11, 12, 13, 14, 15, 20, 21, 22, 23, 24, 25, 26, 27, 28, 33, 34, 35, 37, 38, 39, 41], [0, 1, 2, 3, 4, 5, 6, 7, 8, 9, 10, 11, 12, 13, 14, 15, 16, 17, 18, 19, 20, 21, 22, 23, 24, 25, 26, 27, 28, 29, 30, 31, 32, 37, 38, 39, 41], [0, 1, 2, 3, 4, 5, 6, 7, 8, 9, 10, 11, 12, 13, 14, 15, 16, 17, 18, 19, 20, 21, 22, 23, 24, 25, 26, 27, 28, 29, 30, 31, 32, 37, 38, 39, 41], [0, 1, 2, 3, 4, 5, 6, 7, 8, 9, 10, 11, 12, 13, 14, 15, 16, 17, 18, 19, 20, 21, 22, 23, 24, 25, 26, 27, 28, 29, 30, 31, 32, 37, 38, 39, 41], [0, 1, 2, 3, 4, 5, 6, 7, 8, 9, 10, 11, 12, 13, 14, 15, 20, 21, 22, 23, 24, 25, 26, 27, 28, 37, 38, 39, 41], [0, 1, 2, 3, 4, 5, 6, 7, 8, 9, 10, 11, 12, 13, 14, 15, 16, 17, 18, 19, 20, 21, 22, 23, 24, 25, 26, 27, 28, 29, 30, 31, 32, 33, 34, 35, 36, 41], [0, 1, 2, 3, 4, 5, 6, 7, 8, 9, 10, 11, 12, 13, 14, 15, 16, 17, 18, 19, 20, 21, 22, 23, 24, 25, 26, 27, 28, 29, 30, 31, 32, 33, 34, 35, 36, 41], [0, 1, 2, 3, 4, 5, 6, 7, 8, 9, 10, 11, 12, 13, 14, 15, 16, 17, 18, 19, 20, 21, 22, 23, 24, 25, 26, 27, 28, 29, 30, 31, 32, 33, 34, 35, 36, 41], [41], [0, 1, 2, 3, 4, 5, 6, 7, 8, 9, 10, 11, 12, 13, 14, 15, 16, 17, 18, 19, 20, 21, 22, 23, 24, 25, 26, 27, 28, 29, 30, 31, 32, 33, 34, 35, 36, 37, 38, 39, 40], []]
  | _ => []
def od16 : Nat → List (List Nat)
  | 6 => [[2, 5, 6, 7, 8, 9], [2, 5, 6, 7, 8, 9], [0, 1, 5, 6, 7, 8, 9], [5, 6, 7, 8, 9], [5, 6, 7, 8, 9], [0, 1, 2, 3, 4, 7], [0, 1, 2, 3, 4, 7], [0, 1, 2, 3, 4, 5, 6], [0, 1, 2, 3, 4], [0, 1, 2, 3, 4], []]
  | _ => []
def od20 : Nat → List (List Nat)
  | 8 => [[1, 2, 3, 4, 5, 6, 7, 8, 9, 10, 11, 12, 13, 14, 15, 16, 17, 18, 19, 20, 21, 22, 23, 24, 25, 26, 27, 28, 29, 30, 31, 32, 33, 34, 35, 36, 37, 38, 39, 40, 41, 42, 43, 44, 45, 46, 47, 48, 49, 50, 51, 52, 53, 54, 55, 56, 57, 58, 59, 60, 61, 62, 63, 64, 65], [0, 7, 8, 9, 13, 14, 15, 19, 20, 21, 25, 26, 27, 31, 32, 36, 37, 41, 42, 46, 47, 51, 52, 56, 57, 61, 62], [0, 7, 8, 9, 13, 14, 15, 19, 20, 21, 25, 26, 27, 31, 32, 36, 37, 41, 42, 46, 47, 51, 52, 56, 57, 61, 62], [0, 7, 8, 9, 13, 14, 15, 19, 20, 21, 25, 26, 27, 31, 32, 36, 37, 41, 42, 46, 47, 51, 52, 56, 57, 61, 62], [0, 7, 8, 9, 13, 14, 15, 19, 20, 21, 25, 26, 27, 31, 32, 36, 37, 41, 42, 46, 47, 51, 52, 56, 57, 61, 62], [0, 7, 8, 9, 10, 13, 14, 15, 16, 19, 20, 21, 22, 25, 26, 27, 28, 31, 32, 33, 36, 37, 38, 41, 42, 43, 46, 47, 48, 51, 52, 53, 56, 57, 58, 61, 62, 63], [0, 7, 8, 9, 10, 13, 14, 15, 16, 19, 20, 21, 22, 25, 26, 27, 28, 31, 32, 33, 36, 37, 38, 41, 42, 43, 46, 47, 48, 51, 52, 53, 56, 57, 58, 61, 62, 63], [0, 1, 2, 3, 4, 5, 6, 13, 14, 15, 19, 20, 21, 25, 26, 27, 31, 32, 36, 37, 41, 42, 46, 47, 51, 52, 56, 57, 61, 62], [0, 1, 2, 3, 4, 5, 6, 13, 14, 15, 19, 20, 21, 25, 26, 27, 31, 32, 36, 37, 41, 42, 46, 47, 51, 52, 56, 57, 61, 62], [0, 1, 2, 3, 4, 5, 6, 13, 14, 15, 19, 20, 21, 25, 26, 27, 31, 32, 36, 37, 41, 42, 46, 47, 51, 52, 56, 57, 61, 62], [0, 5, 6, 13, 14, 15, 19, 20, 21, 25, 26, 27, 31, 32, 36, 37, 41, 42, 46, 47, 51, 52, 56, 57, 61, 62], [0, 13, 14, 15, 16, 19, 20, 21, 22, 25, 26, 27, 28, 31, 32, 33, 36, 37, 38, 41, 42, 43, 46, 47, 48, 51, 52, 53, 56, 57, 58, 61, 62, 63], [0, 13, 14, 15, 16, 19, 20, 21, 22, 25, 26, 27, 28, 31, 32, 33, 36, 37, 38, 41, 42, 43, 46, 47, 48, 51, 52, 53, 56, 57, 58, 61, 62, 63], [0, 1, 2, 3, 4, 5, 6, 7, 8, 9, 10, 11, 12, 19, 20, 21, 25, 26, 27, 31, 32, 36, 37, 41, 42, 46, 47, 51, 52, 56, 57, 61, 62], [0, 1, 2, 3, 4, 5, 6, 7, 8, 9, 10, 11, 12, 19, 20, 21, 25, 26, 27, 31, 32, 36, 37, 41, 42, 46, 47, 51, 52, 56, 57, 61, 62], [0, 1, 2, 3, 4, 5, 6, 7, 8, 9, 10, 11, 12, 19, 20, 21, 25, 26, 27, 31, 32, 36, 37, 41, 42, 46, 47, 51, 52, 56, 57, 61, 62], [0, 5, 6, 11, 12, 19, 20, 21, 25, 26, 27, 31, 32, 36, 37, 41, 42, 46, 47, 51, 52, 56, 57, 61, 62], [0, 19, 20, 21, 22, 25, 26, 27, 28, 31, 32, 33, 36, 37, 38, 41, 42, 43, 46, 47, 48, 51, 52, 53, 56, 57, 58, 61, 62, 63], [0, 19, 20, 21, 22, 25, 26, 27, 28, 31, 32, 33, 36, 37, 38, 41, 42, 43, 46, 47, 48, 51, 52, 53, 56, 57, 58, 61, 62, 63], [0, 1, 2, 3, 4, 5, 6, 7, 8, 9, 10, 11, 12, 13, 14, 15, 16, 17, 18, 25, 26, 27, 31, 32, 36, 37, 41, 42, 46, 47, 51, 52, 56, 57, 61, 62], [0, 1, 2, 3, 4, 5, 6, 7, 8, 9, 10, 11, 12, 13, 14, 15, 16, 17, 18, 25, 26, 27, 31, 32, 36, 37, 41, 42, 46, 47, 51, 52, 56, 57, 61, 62], [0, 1, 2, 3, 4, 5, 6, 7, 8, 9, 10, 11, 12, 13, 14, 15, 16, 17, 18, 25, 26, 27, 31, 32, 36, 37, 41, 42, 46, 47, 51, 52, 56, 57, 61, 62], [0, 5, 6, 11, 12, 17, 18, 25, 26, 27, 31, 32, 36, 37, 41, 42, 46, 47, 51, 52, 56, 57, 61, 62], [0, 25, 26, 27, 28, 31, 32, 33, 36, 37, 38, 41, 42, 43, 46, 47, 48, 51, 52, 53, 56, 57, 58, 61, 62, 63], [0, 25, 26, 27, 28, 31, 32, 33, 36, 37, 38, 41, 42, 43, 46, 47, 48, 51, 52, 53, 56, 57, 58, 61, 62, 63], [0, 1, 2, 3, 4, 5, 6, 7, 8, 9, 10, 11, 12, 13, 14, 15, 16, 17, 18, 19, 20, 21, 22, 23, 24, 31, 32, 36, 37, 41, 42, 46, 47, 51, 52, 56, 57, 61, 62], [0, 1, 2, 3, 4, 5, 6, 7, 8, 9, 10, 11, 12, 13, 14, 15, 16, 17, 18, 19, 20, 21, 22, 23, 24, 31, 32, 36, 37, 41, 42, 46, 47, 51, 52, 56, 57, 61, 62], [0, 1, 2, 3, 4, 5, 6, 7, 8, 9, 10, 11, 12, 13, 14, 15, 16, 17, 18, 19, 20, 21, 22, 23, 24, 31, 32, 36, 37, 41, 42, 46, 47, 51, 52, 56, 57, 61, 62], [0, 5, 6, 11, 12, 17, 18, 23, 24, 31, 32, 36, 37, 41, 42, 46, 47, 51, 52, 56, 57, 61, 62], [0, 31, 32, 33, 36, 37, 38, 41, 42, 43, 46, 47, 48, 51, 52, 53, 56, 57, 58, 61, 62, 63], [0, 31, 32, 33, 36, 37, 38, 41, 42, 43, 46, 47, 48, 51, 52, 53, 56, 57, 58, 61, 62, 63], [0, 1, 2, 3, 4, 5, 6, 7, 8, 9, 10, 11, 12, 13, 14, 15, 16, 17, 18, 19, 20, 21, 22, 23, 24, 25, 26, 27, 28, 29, 30, 36, 37, 41, 42, 46, 47, 51, 52, 56, 57, 61, 62], [0, 1, 2, 3, 4, 5, 6, 7, 8, 9, 10, 11, 12, 13, 14, 15, 16, 17, 18, 19, 20, 21, 22, 23, 24, 25, 26, 27, 28, 29, 30, 36, 37, 41, 42, 46, 47, 51, 52, 56, 57, 61, 62], [0, 5, 6, 11, 12, 17, 18, 23, 24, 29, 30, 36, 37, 41, 42, 46, 47, 51, 52, 56, 57, 61, 62], [0, 36, 37, 38, 41, 42, 43, 46, 47, 48, 51, 52, 53, 56, 57, 58, 61, 62, 63], [0, 36, 37, 38, 41, 42, 43, 46, 47, 48, 51, 52, 53, 56, 57, 58, 61, 62, 63], [0, 1, 2, 3, 4, 5, 6, 7, 8, 9, 10, 11, 12, 13, 14, 15, 16, 17, 18, 19, 20, 21, 22, 23, 24, 25, 26, 27, 28, 29, 30, 31, 32, 33, 34, 35, 41, 42, 46, 47, 51, 52, 56, 57, 61, 62], [0, 1, 2, 3, 4, 5, 6, 7, 8, 9, 10, 11, 12, 13, 14, 15, 16, 17, 18, 19, 20, 21, 22, 23, 24, 25, 26, 27, 28, 29, 30, 31, 32, 33, 34, 35, 41, 42, 46, 47, 51, 52, 56, 57, 61, 62], [0, 5, 6, 11, 12, 17, 18, 23, 24, 29, 30, 34, 35, 41, 42, 46, 47, 51, 52, 56, 57, 61, 62], [0, 41, 42, 43, 46, 47, 48, 51, 52, 53, 56, 57, 58, 61, 62, 63], [0, 41, 42, 43, 46, 47, 48, 51, 52, 53, 56, 57, 58, 61, 62, 63], [0, 1, 2, 3, 4, 5, 6, 7, 8, 9, 10, 11, 12, 13, 14, 15, 16, 17, 18, 19, 20, 21, 22, 23, 24, 25, 26, 27, 28, 29, 30, 31, 32, 33, 34, 35, 36, 37, 38, 39, 40, 46, 47, 51, 52, 56, 57, 61, 62], [0, 1, 2, 3, 4, 5, 6, 7, 8, 9, 10, 11, 12, 13, 14, 15, 16, 17, 18, 19, 20, 21, 22, 23, 24, 25, 26, 27, 28, 29, 30, 31, 32, 33, 34, 35, 36, 37, 38, 39, 40, 46, 47, 51, 52, 56, 57, 61, 62], [0, 5, 6, 11, 12, 17, 18, 23, 24, 29, 30, 34, 35, 39, 40, 46, 47, 51, 52, 56, 57, 61, 62], [0, 46, 47, 48, 51, 52, 53, 56, 57, 58, 61, 62, 63], [0, 46, 47, 48, 51, 52, 53, 56, 57, 58, 61, 62, 63], [0, 1, 2, 3, 4, 5, 6, 7, 8, 9, 10, 11, 12, 13, 14, 15, 16, 17, 18, 19, 20, 21, 22, 23, 24, 25, 26, 27, 28, 29, 30, 31, 32, 33, 34, 35, 36, 37, 38, 39, 40, 41, 42, 43, 44, 45, 51, 52, 56, 57, 61, 62], [0, 1, 2, 3, 4, 5, 6, 7, 8, 9, 10, 11, 12, 13, 14, 15, 16, 17, 18, 19, 20, 21, 22, 23, 24, 25, 26, 27, 28, 29, 30, 31, 32, 33, 34, 35, 36, 37, 38, 39, 40, 41, 42, 43, 44, 45, 51, 52, 56, 57, 61, 62], [0, 5, 6, 11, 12, 17, 18, 23, 24, 29, 30, 34, 35, 39, 40, 44, 45, 51, 52, 56, 57, 61, 62], [0, 51, 52, 53, 56, 57, 58, 61, 62, 63], [0, 51, 52, 53, 56, 57, 58, 61, 62, 63], [0, 1, 2, 3, 4, 5, 6, 7, 8, 9, 10, 11, 12, 13, 14, 15, 16, 17, 18, 19, 20, 21, 22, 23, 24, 25, 26, 27, 28, 29, 30, 31, 32, 33, 34, 35, 36, 37, 38, 39, 40, 41, 42, 43, 44, 45, 46, 47, 48, 49, 50, 56, 57, 61, 62], [0, 1, 2, 3, 4, 5, 6, 7, 8, 9, 10, 11, 12, 13, 14, 15, 16, 17, 18, 19, 20, 21, 22, 23, 24, 25, 26, 27, 28, 29, 30, 31, 32, 33, 34, 35, 36, 37, 38, 39, 40, 41, 42, 43, 44, 45, 46, 47, 48, 49, 50, 56, 57, 61, 62], [0, 5, 6, 11, 12, 17, 18, 23, 24, 29, 30, 34, 35, 39, 40, 44, 45, 49, 50, 56, 57, 61, 62], [0, 56, 57, 58, 61, 62, 63], [0, 56, 57, 58, 61, 62, 63], [0, 1, 2, 3, 4, 5, 6, 7, 8, 9, 10, 11, 12, 13, 14, 15, 16, 17, 18, 19, 20, 21, 22, 23, 24, 25, 26, 27, 28, 29, 30, 31, 32, 33, 34, 35, 36, 37, 38, 39, 40, 41, 42, 43, 44, 45, 46, 47, 48, 49, 50, 51, 52, 53, 54, 55, 61, 62], [0, 1, 2, 3, 4, 5, 6, 7, 8, 9, 10, 11, 12, 13, 14, 15, 16, 17, 18, 19, 20, 21, 22, 23, 24, 25, 26, 27, 28, 29, 30, 31, 32, 33, 34, 35, 36, 37, 38, 39, 40, 41, 42, 43, 44, 45, 46, 47, 48, 49, 50, 51, 52, 53, 54, 55, 61, 62], [0, 5, 6, 11, 12, 17, 18, 23, 24, 29, 30, 34, 35, 39, 40, 44, 45, 49, 50, 54, 55, 61, 62], [0, 61, 62, 63], [0, 61, 62, 63], [0, 1, 2, 3, 4, 5, 6, 7, 8, 9, 10, 11, 12, 13, 14, 15, 16, 17, 18, 19, 20, 21, 22, 23, 24, 25, 26, 27, 28, 29, 30, 31, 32, 33, 34, 35, 36, 37, 38, 39, 40, 41, 42, 43, 44, 45, 46, 47, 48, 49, 50, 51, 52, 53, 54, 55, 56, 57, 58, 59, 60], [0, 1, 2, 3, 4, 5, 6, 7, 8, 9, 10, 11, 12, 13, 14, 15, 16, 17, 18, 19, 20, 21, 22, 23, 24, 25, 26, 27, 28, 29, 30, 31, 32, 33, 34, 35, 36, 37, 38, 39, 40, 41, 42, 43, 44, 45, 46, 47, 48, 49, 50, 51, 52, 53, 54, 55, 56, 57, 58, 59, 60], [0, 5, 6, 11, 12, 17, 18, 23, 24, 29, 30, 34, 35, 39, 40, 44, 45, 49, 50, 54, 55, 59, 60], [0], [0], [], []]
  | _ => []
def od29 : Nat → List (List Nat)
  | 17 => [[1, 2, 3, 4, 5, 6, 7], [0, 5, 6], [0, 5, 6], [0, 5, 6], [0, 5, 6], [0, 1, 2, 3, 4], [0, 1, 2, 3, 4], [0], [], [], []]
  | _ => []
def od55 : Nat → List (List Nat)
  | 1 => [[3, 4, 5, 6, 7, 8, 9, 10, 11, 12, 13, 14, 16, 17, 18, 19, 20, 21, 22, 23, 24, 25, 26, 27, 28, 29, 30, 31, 32, 33, 34, 35, 36, 37, 38, 39], [3, 4, 5, 6, 7, 8, 9, 10, 11, 12, 13, 14, 16, 17, 18, 19, 20, 21, 22, 23, 24, 25, 26, 27, 28, 29, 30, 31, 32, 33, 34, 35, 36, 37, 38, 39], [3, 4, 5, 6, 7, 8, 9, 10, 11, 12, 13, 14, 16, 17, 18, 19, 20, 21, 22, 23, 24, 25, 26, 27, 28, 29, 30, 31, 32, 33, 34, 35, 36, 37, 38, 39], [0, 1, 2, 6, 7, 8, 9, 10, 11, 12, 13, 14, 16, 17, 18, 19, 20, 21, 22, 23, 24, 25, 26, 27, 28, 29, 30, 31, 32, 33, 34, 35, 36, 37, 38, 39], [0, 1, 2, 6, 7, 8, 9, 10, 11, 12, 13, 14, 16, 17, 18, 19, 20, 21, 22, 23, 24, 25, 26, 27, 28, 29, 30, 31, 32, 33, 34, 35, 36, 37, 38, 39], [0, 1, 2, 6, 7, 8, 9, 10, 11, 12, 13, 14, 16, 17, 18, 19, 20, 21, 22, 23, 24, 25, 26, 27, 28, 29, 30, 31, 32, 33, 34, 35, 36, 37, 38, 39], [0, 1, 2, 3, 4, 5, 9, 10, 11, 12, 13, 14, 16, 17, 18, 19, 20, 21, 22, 23, 24, 25, 26, 27, 28, 29, 30, 31, 32, 33, 34, 35, 36, 37, 38, 39], [0, 1, 2, 3, 4, 5, 9, 10, 11, 12, 13, 14, 16, 17, 18, 19, 20, 21, 22, 23, 24, 25, 26, 27, 28, 29, 30, 31, 32, 33, 34, 35, 36, 37, 38, 39], [0, 1, 2, 3, 4, 5, 9, 10, 11, 12, 13, 14, 16, 17, 18, 19, 20, 21, 22, 23, 24, 25, 26, 27, 28, 29, 30, 31, 32, 33, 34, 35, 36, 37, 38, 39], [0, 1, 2, 3, 4, 5, 6, 7, 8, 12, 13, 14, 16, 17, 18, 19, 20, 21, 22, 23, 24, 25, 26, 27, 28, 29, 30, 31, 32, 33, 34, 35, 36, 37, 38, 39], [0, 1, 2, 3, 4, 5, 6, 7, 8, 12, 13, 14, 16, 17, 18, 19, 20, 21, 22, 23, 24, 25, 26, 27, 28, 29, 30, 31, 32, 33, 34, 35, 36, 37, 38, 39], [0, 1, 2, 3, 4, 5, 6, 7, 8, 12, 13, 14, 16, 17, 18, 19, 20, 21, 22, 23, 24, 25, 26, 27, 28, 29, 30, 31, 32, 33, 34, 35, 36, 37, 38, 39], [0, 1, 2, 3, 4, 5, 6, 7, 8, 9, 10, 11, 16, 17, 18, 19, 20, 21, 22, 23, 24, 25, 26, 27, 28, 29, 30, 31, 32, 33, 34, 35, 36, 37, 38, 39], [0, 1, 2, 3, 4, 5, 6, 7, 8, 9, 10, 11, 16, 17, 18, 19, 20, 21, 22, 23, 24, 25, 26, 27, 28, 29, 30, 31, 32, 33, 34, 35, 36, 37, 38, 39], [0, 1, 2, 3, 4, 5, 6, 7, 8, 9, 10, 11, 16, 17, 18, 19, 20, 21, 22, 23, 24, 25, 26, 27, 28, 29, 30, 31, 32, 33, 34, 35, 36, 37, 38, 39], [16, 17, 18, 19, 20, 21, 22, 23, 24, 25, 26, 27, 28, 29, 30, 31, 32, 33, 34, 35, 36, 37, 38, 39], [0, 1, 2, 3, 4, 5, 6, 7, 8, 9, 10, 11, 12, 13, 14, 15, 20, 21, 22, 23, 24, 25, 26, 27, 28, 29, 30, 31, 33, 34, 35, 37, 38, 39], [0, 1, 2, 3, 4, 5, 6, 7, 8, 9, 10, 11, 12, 13, 14, 15, 20, 21, 22, 23, 24, 25, 26, 27, 28, 29, 30, 31, 33, 34, 35, 37, 38, 39], [0, 1, 2, 3, 4, 5, 6, 7, 8, 9, 10, 11, 12, 13, 14, 15, 20, 21, 22, 23, 24, 25, 26, 27, 28, 29, 30, 31, 33, 34, 35, 37, 38, 39], [0, 1, 2, 3, 4, 5, 6, 7, 8, 9, 10, 11, 12, 13, 14, 15, 20, 21, 22, 23, 24, 25, 26, 27, 28, 29, 30, 31, 33, 34, 35, 37, 38, 39], [0, 1, 2, 3, 4, 5, 6, 7, 8, 9, 10, 11, 12, 13, 14, 15, 16, 17, 18, 19, 23, 24, 25, 26, 27, 28, 29, 30, 31, 32, 33, 34, 35, 36, 37, 38, 39], [0, 1, 2, 3, 4, 5, 6, 7, 8, 9, 10, 11, 12, 13, 14, 15, 16, 17, 18, 19, 23, 24, 25, 26, 27, 28, 29, 30, 31, 32, 33, 34, 35, 36, 37, 38, 39], [0, 1, 2, 3, 4, 5, 6, 7, 8, 9, 10, 11, 12, 13, 14, 15, 16, 17, 18, 19, 23, 24, 25, 26, 27, 28, 29, 30, 31, 32, 33, 34, 35, 36, 37, 38, 39], [0, 1, 2, 3, 4, 5, 6, 7, 8, 9, 10, 11, 12, 13, 14, 15, 16, 17, 18, 19, 20, 21, 22, 26, 27, 28, 29, 30, 31, 32, 33, 34, 35, 36, 37, 38, 39], [0, 1, 2, 3, 4, 5, 6, 7, 8, 9, 10, 11, 12, 13, 14, 15, 16, 17, 18, 19, 20, 21, 22, 26, 27, 28, 29, 30, 31, 32, 33, 34, 35, 36, 37, 38, 39], [0, 1, 2, 3, 4, 5, 6, 7, 8, 9, 10, 11, 12, 13, 14, 15, 16, 17, 18, 19, 20, 21, 22, 26, 27, 28, 29, 30, 31, 32, 33, 34, 35, 36, 37, 38, 39], [0, 1, 2, 3, 4, 5, 6, 7, 8, 9, 10, 11, 12, 13, 14, 15, 16, 17, 18, 19, 20, 21, 22, 23, 24, 25, 29, 30, 31, 32, 33, 34, 35, 36, 37, 38, 39], [0, 1, 2, 3, 4, 5, 6, 7, 8, 9, 10, 11, 12, 13, 14, 15, 16, 17, 18, 19, 20, 21, 22, 23, 24, 25, 29, 30, 31, 32, 33, 34, 35, 36, 37, 38, 39], [0, 1, 2, 3, 4, 5, 6, 7, 8, 9, 10, 11, 12, 13, 14, 15, 16, 17, 18, 19, 20, 21, 22, 23, 24, 25, 29, 30, 31, 32, 33, 34, 35, 36, 37, 38, 39], [0, 1, 2, 3, 4, 5, 6, 7, 8, 9, 10, 11, 12, 13, 14, 15, 16, 17, 18, 19, 20, 21, 22, 23, 24, 25, 26, 27, 28, 33, 34, 35, 37, 38, 39], [0, 1, 2, 3, 4, 5, 6, 7, 8, 9, 10, 11, 12, 13, 14, 15, 16, 17, 18, 19, 20, 21, 22, 23, 24, 25, 26, 27, 28, 33, 34, 35, 37, 38, 39], [0, 1, 2, 3, 4, 5, 6, 7, 8, 9, 10, 11, 12, 13, 14, 15, 16, 17, 18, 19, 20, 21, 22, 23, 24, 25, 26, 27, 28, 33, 34, 35, 37, 38, 39], [0, 1, 2, 3, 4, 5, 6, 7, 8, 9, 10, 11, 12, 13, 14, 15, 20, 21, 22, 23, 24, 25, 26, 27, 28, 33, 34, 35, 37, 38, 39], [0, 1, 2, 3, 4, 5, 6, 7, 8, 9, 10, 11, 12, 13, 14, 15, 16, 17, 18, 19, 20, 21, 22, 23, 24, 25, 26, 27, 28, 29, 30, 31, 32, 37, 38, 39], [0, 1, 2, 3, 4, 5, 6, 7, 8, 9, 10, 11, 12, 13, 14, 15, 16, 17, 18, 19, 20, 21, 22, 23, 24, 25, 26, 27, 28, 29, 30, 31, 32, 37, 38, 39], [0, 1, 2, 3, 4, 5, 6, 7, 8, 9, 10, 11, 12, 13, 14, 15, 16, 17, 18, 19, 20, 21, 22, 23, 24, 25, 26, 27, 28, 29, 30, 31, 32, 37, 38, 39], [0, 1, 2, 3, 4, 5, 6, 7, 8, 9, 10, 11, 12, 13, 14, 15, 20, 21, 22, 23, 24, 25, 26, 27, 28, 37, 38, 39], [0, 1, 2, 3, 4, 5, 6, 7, 8, 9, 10, 11, 12, 13, 14, 15, 16, 17, 18, 19, 20, 21, 22, 23, 24, 25, 26, 27, 28, 29, 30, 31, 32, 33, 34, 35, 36], [0, 1, 2, 3, 4, 5, 6, 7, 8, 9, 10, 11, 12, 13, 14, 15, 16, 17, 18, 19, 20, 21, 22, 23, 24, 25, 26, 27, 28, 29, 30, 31, 32, 33, 34, 35, 36], [0, 1, 2, 3, 4, 5, 6, 7, 8, 9, 10, 11, 12, 13, 14, 15, 16, 17, 18, 19, 20, 21, 22, 23, 24, 25, 26, 27, 28, 29, 30, 31, 32, 33, 34, 35, 36], [], []]
  | _ => []
def od90 : Nat → List (List Nat)
  | 1 => [[2, 3], [2, 3], [0, 1, 4], [0, 1, 4], [2, 3], []]
  | _ => []
def od99 : Nat → List (List Nat)
  | 7 => [[1, 2, 3, 4, 5, 6, 7, 8, 9, 10], [0, 3, 4, 5, 6, 7, 8, 9, 10], [0, 3, 4, 5, 6, 7, 8, 9, 10], [0, 1, 2, 4, 5, 6, 7, 8, 9, 10, 11, 12], [0, 1, 2, 3, 6, 7, 8, 9, 10, 11, 12], [0, 1, 2, 3, 6, 7, 8, 9, 10, 11, 12], [0, 1, 2, 3, 4, 5, 9, 10], [0, 1, 2, 3, 4, 5, 9, 10], [0, 1, 2, 3, 4, 5, 9, 10], [0, 1, 2, 3, 4, 5, 6, 7, 8, 11, 12], [0, 1, 2, 3, 4, 5, 6, 7, 8, 11, 12], [3, 4, 5, 9, 10], [3, 4, 5, 9, 10], [], []]
  | 8 => [[1, 2, 3, 4, 5, 6, 7, 8, 9, 10], [0, 3, 4, 5, 6, 7, 8, 9, 10], [0, 3, 4, 5, 6, 7, 8, 9, 10], [0, 1, 2, 4, 5, 6, 7, 8, 9, 10, 11, 12], [0, 1, 2, 3, 6, 7, 8, 9, 10, 11, 12], [0, 1, 2, 3, 6, 7, 8, 9, 10, 11, 12], [0, 1, 2, 3, 4, 5, 9, 10], [0, 1, 2, 3, 4, 5, 9, 10], [0, 1, 2, 3, 4, 5, 9, 10], [0, 1, 2, 3, 4, 5, 6, 7, 8, 11, 12], [0, 1, 2, 3, 4, 5, 6, 7, 8, 11, 12], [3, 4, 5, 9, 10], [3, 4, 5, 9, 10], [], []]
  | 9 => [[1, 2, 3, 4, 5, 6, 7, 8, 9, 10], [0, 3, 4, 5, 6, 7, 8, 9, 10], [0, 3, 4, 5, 6, 7, 8, 9, 10], [0, 1, 2, 4, 5, 6, 7, 8, 9, 10, 11, 12], [0, 1, 2, 3, 6, 7, 8, 9, 10, 11, 12], [0, 1, 2, 3, 6, 7, 8, 9, 10, 11, 12], [0, 1, 2, 3, 4, 5, 9, 10], [0, 1, 2, 3, 4, 5, 9, 10], [0, 1, 2, 3, 4, 5, 9, 10], [0, 1, 2, 3, 4, 5, 6, 7, 8, 11, 12], [0, 1, 2, 3, 4, 5, 6, 7, 8, 11, 12], [3, 4, 5, 9, 10], [3, 4, 5, 9, 10], [], []]
  | 10 => [[1, 2, 3, 4, 5, 6, 7, 8, 9, 10], [0, 3, 4, 5, 6, 7, 8, 9, 10], [0, 3, 4, 5, 6, 7, 8, 9, 10], [0, 1, 2, 4, 5, 6, 7, 8, 9, 10, 11, 12], [0, 1, 2, 3, 6, 7, 8, 9, 10, 11, 12], [0, 1, 2, 3, 6, 7, 8, 9, 10, 11, 12], [0, 1, 2, 3, 4, 5, 9, 10], [0, 1, 2, 3, 4, 5, 9, 10], [0, 1, 2, 3, 4, 5, 9, 10], [0, 1, 2, 3, 4, 5, 6, 7, 8, 11, 12], [0, 1, 2, 3, 4, 5, 6, 7, 8, 11, 12], [3, 4, 5, 9, 10], [3, 4, 5, 9, 10], [], []]
  | 17 => [[1, 2, 3, 4, 5, 6, 7, 8, 9, 10], [0, 3, 4, 5, 6, 7, 8, 9, 10], [0, 3, 4, 5, 6, 7, 8, 9, 10], [0, 1, 2, 4, 5, 6, 7, 8, 9, 10, 11, 12], [0, 1, 2, 3, 6, 7, 8, 9, 10, 11, 12], [0, 1, 2, 3, 6, 7, 8, 9, 10, 11, 12], [0, 1, 2, 3, 4, 5, 9, 10], [0, 1, 2, 3, 4, 5, 9, 10], [0, 1, 2, 3, 4, 5, 9, 10], [0, 1, 2, 3, 4, 5, 6, 7, 8, 11, 12], [0, 1, 2, 3, 4, 5, 6, 7, 8, 11, 12], [3, 4, 5, 9, 10], [3, 4, 5, 9, 10], [], []]
  | 18 => [[1, 2, 3, 4, 5, 6, 7, 8, 9, 10], [0, 3, 4, 5, 6, 7, 8, 9, 10], [0, 3, 4, 5, 6, 7, 8, 9, 10], [0, 1, 2, 4, 5, 6, 7, 8, 9, 10, 11, 12], [0, 1, 2, 3, 6, 7, 8, 9, 10, 11, 12], [0, 1, 2, 3, 6, 7, 8, 9, 10, 11, 12], [0, 1, 2, 3, 4, 5, 9, 10], [0, 1, 2, 3, 4, 5, 9, 10], [0, 1, 2, 3, 4, 5, 9, 10], [0, 1, 2, 3, 4, 5, 6, 7, 8, 11, 12], [0, 1, 2, 3, 4, 5, 6, 7, 8, 11, 12], [3, 4, 5, 9, 10], [3, 4, 5, 9, 10], [], []]
  | 23 => [[1, 2, 3, 4, 5, 6, 7, 8, 9, 10], [0, 3, 4, 5, 6, 7, 8, 9, 10], [0, 3, 4, 5, 6, 7, 8, 9, 10], [0, 1, 2, 4, 5, 6, 7, 8, 9, 10, 11, 12], [0, 1, 2, 3, 6, 7, 8, 9, 10, 11, 12], [0, 1, 2, 3, 6, 7, 8, 9, 10, 11, 12], [0, 1, 2, 3, 4, 5, 9, 10], [0, 1, 2, 3, 4, 5, 9, 10], [0, 1, 2, 3, 4, 5, 9, 10], [0, 1, 2, 3, 4, 5, 6, 7, 8, 11, 12], [0, 1, 2, 3, 4, 5, 6, 7, 8, 11, 12], [3, 4, 5, 9, 10], [3, 4, 5, 9, 10], [], []]
  | _ => []
def od130 : Nat → List (List Nat)
  | 9 => [[1, 2, 3, 4, 5, 6, 7], [0, 2, 4, 5, 6], [0, 1, 4, 5, 6], [0, 4, 5, 6], [0, 1, 2, 3, 5], [0, 1, 2, 3, 4], [0, 1, 2, 3], [0], [], []]
  | _ => []
def od166 : Nat → List (List Nat)
  | 1 => [[1, 2, 3], [0, 3], [0, 3], [0, 1, 2], [], [], []]
  | _ => []
def od167 : Nat → List (List Nat)
  | 1 => [[1, 2, 3], [0, 3], [0, 3], [0, 1, 2], [], [], []]
  | _ => []
end Go.Am
end
