/-
  Texts of one proof, one behind the other.
-/
import Derived.Test.YtgcpbkbmnkjlkaaDoorP3
import Derived.Test.YtgcpbkbmnkjlkaaDoorProg
import Derived.KernelRfl
import Derived.Lib.Bytealg
import Derived.Lib.Index
import Derived.Lib.Strings
set_option linter.all false
section
namespace Go.Am
open Go
open Go.Proofs
@[simp] theorem tk_1 : tk Tryd.prog 1 = .func := by kernel_rfl
@[simp] theorem tsz_1 : tsz Tryd.prog 1 = some 1 := by kernel_rfl
@[simp] theorem tk_2 : tk Tryd.prog 2 = .int .i64 := by kernel_rfl
@[simp] theorem tsz_2 : tsz Tryd.prog 2 = some 1 := by kernel_rfl
@[simp] theorem tzero_2 : tzero Tryd.prog 2 = some ([.d (.int .i64 0)]) := by kernel_rfl
@[simp] theorem tbytes_2 : tbytes Tryd.prog 2 = some 8 := by kernel_rfl
@[simp] theorem tzeroD_2 : tzeroD Tryd.prog 2 = some (.int .i64 0) := by kernel_rfl
@[simp] theorem tk_3 : tk Tryd.prog 3 = .int .i64 := by kernel_rfl
@[simp] theorem tsz_3 : tsz Tryd.prog 3 = some 1 := by kernel_rfl
@[simp] theorem tzero_3 : tzero Tryd.prog 3 = some ([.d (.int .i64 0)]) := by kernel_rfl
@[simp] theorem tbytes_3 : tbytes Tryd.prog 3 = some 8 := by kernel_rfl
@[simp] theorem tzeroD_3 : tzeroD Tryd.prog 3 = some (.int .i64 0) := by kernel_rfl
@[simp] theorem tk_4 : tk Tryd.prog 4 = .bool := by kernel_rfl
@[simp] theorem tsz_4 : tsz Tryd.prog 4 = some 1 := by kernel_rfl
@[simp] theorem tzero_4 : tzero Tryd.prog 4 = some ([.d (.bool false)]) := by kernel_rfl
@[simp] theorem tbytes_4 : tbytes Tryd.prog 4 = some 1 := by kernel_rfl
@[simp] theorem tzeroD_4 : tzeroD Tryd.prog 4 = some (.bool false) := by kernel_rfl
@[simp] theorem tk_5 : tk Tryd.prog 5 = .int .u8 := by kernel_rfl
@[simp] theorem tsz_5 : tsz Tryd.prog 5 = some 1 := by kernel_rfl
@[simp] theorem tzero_5 : tzero Tryd.prog 5 = some ([.d (.int .u8 0)]) := by kernel_rfl
@[simp] theorem tbytes_5 : tbytes Tryd.prog 5 = some 1 := by kernel_rfl
@[simp] theorem tzeroD_5 : tzeroD Tryd.prog 5 = some (.int .u8 0) := by kernel_rfl
@[simp] theorem tk_6 : tk Tryd.prog 6 = .int .u8 := by kernel_rfl
@[simp] theorem tsz_6 : tsz Tryd.prog 6 = some 1 := by kernel_rfl
@[simp] theorem tzero_6 : tzero Tryd.prog 6 = some ([.d (.int .u8 0)]) := by kernel_rfl
@[simp] theorem tbytes_6 : tbytes Tryd.prog 6 = some 1 := by kernel_rfl
@[simp] theorem tzeroD_6 : tzeroD Tryd.prog 6 = some (.int .u8 0) := by kernel_rfl
@[simp] theorem tk_7 : tk Tryd.prog 7 = .struct := by kernel_rfl
@[simp] theorem tsz_7 : tsz Tryd.prog 7 = some 4 := by kernel_rfl
@[simp] theorem tzero_7 : tzero Tryd.prog 7 = some ([.d (.int .i64 0), .d (.int .i64 0), .d (.bool false), .d (.int .u8 0)]) := by kernel_rfl
@[simp] theorem tbytes_7 : tbytes Tryd.prog 7 = some 24 := by kernel_rfl
@[simp] theorem tzeroD_7 : tzeroD Tryd.prog 7 = some (.agg ([.int .i64 0, .int .i64 0, .bool false, .int .u8 0])) := by kernel_rfl
@[simp] theorem foff_7_0 : foff Tryd.prog 7 0 = some 0 := by kernel_rfl
@[simp] theorem foff_7_1 : foff Tryd.prog 7 1 = some 1 := by kernel_rfl
@[simp] theorem foff_7_2 : foff Tryd.prog 7 2 = some 2 := by kernel_rfl
@[simp] theorem foff_7_3 : foff Tryd.prog 7 3 = some 3 := by kernel_rfl
@[simp] theorem fplace_7 : fplace Tryd.prog 7 = some [(0, 1), (1, 1), (2, 1), (3, 1)] := by kernel_rfl
@[simp] theorem tk_8 : tk Tryd.prog 8 = .struct := by kernel_rfl
@[simp] theorem tsz_8 : tsz Tryd.prog 8 = some 4 := by kernel_rfl
@[simp] theorem tzero_8 : tzero Tryd.prog 8 = some ([.d (.int .i64 0), .d (.int .i64 0), .d (.bool false), .d (.int .u8 0)]) := by kernel_rfl
@[simp] theorem tbytes_8 : tbytes Tryd.prog 8 = some 24 := by kernel_rfl
@[simp] theorem tzeroD_8 : tzeroD Tryd.prog 8 = some (.agg ([.int .i64 0, .int .i64 0, .bool false, .int .u8 0])) := by kernel_rfl
@[simp] theorem foff_8_0 : foff Tryd.prog 8 0 = some 0 := by kernel_rfl
@[simp] theorem foff_8_1 : foff Tryd.prog 8 1 = some 1 := by kernel_rfl
@[simp] theorem foff_8_2 : foff Tryd.prog 8 2 = some 2 := by kernel_rfl
@[simp] theorem foff_8_3 : foff Tryd.prog 8 3 = some 3 := by kernel_rfl
@[simp] theorem fplace_8 : fplace Tryd.prog 8 = some [(0, 1), (1, 1), (2, 1), (3, 1)] := by kernel_rfl
@[simp] theorem tk_9 : tk Tryd.prog 9 = .str := by kernel_rfl
@[simp] theorem tsz_9 : tsz Tryd.prog 9 = some 1 := by kernel_rfl
@[simp] theorem tzero_9 : tzero Tryd.prog 9 = some ([.d (.str [])]) := by kernel_rfl
@[simp] theorem tbytes_9 : tbytes Tryd.prog 9 = some 16 := by kernel_rfl
@[simp] theorem tzeroD_9 : tzeroD Tryd.prog 9 = some (.str []) := by kernel_rfl
@[simp] theorem srcTy_9 : srcTy Tryd.prog 9 = true := by kernel_rfl
@[simp] theorem tk_10 : tk Tryd.prog 10 = .str := by kernel_rfl
@[simp] theorem tsz_10 : tsz Tryd.prog 10 = some 1 := by kernel_rfl
@[simp] theorem tzero_10 : tzero Tryd.prog 10 = some ([.d (.str [])]) := by kernel_rfl
@[simp] theorem tbytes_10 : tbytes Tryd.prog 10 = some 16 := by kernel_rfl
@[simp] theorem tzeroD_10 : tzeroD Tryd.prog 10 = some (.str []) := by kernel_rfl
@[simp] theorem srcTy_10 : srcTy Tryd.prog 10 = true := by kernel_rfl
@[simp] theorem tk_11 : tk Tryd.prog 11 = .str := by kernel_rfl
@[simp] theorem tsz_11 : tsz Tryd.prog 11 = some 1 := by kernel_rfl
@[simp] theorem tzero_11 : tzero Tryd.prog 11 = some ([.d (.str [])]) := by kernel_rfl
@[simp] theorem tbytes_11 : tbytes Tryd.prog 11 = some 16 := by kernel_rfl
@[simp] theorem tzeroD_11 : tzeroD Tryd.prog 11 = some (.str []) := by kernel_rfl
@[simp] theorem srcTy_11 : srcTy Tryd.prog 11 = true := by kernel_rfl
@[simp] theorem tk_12 : tk Tryd.prog 12 = .int .u64 := by kernel_rfl
@[simp] theorem tsz_12 : tsz Tryd.prog 12 = some 1 := by kernel_rfl
@[simp] theorem tzero_12 : tzero Tryd.prog 12 = some ([.d (.int .u64 0)]) := by kernel_rfl
@[simp] theorem tbytes_12 : tbytes Tryd.prog 12 = some 8 := by kernel_rfl
@[simp] theorem tzeroD_12 : tzeroD Tryd.prog 12 = some (.int .u64 0) := by kernel_rfl
@[simp] theorem tk_13 : tk Tryd.prog 13 = .struct := by kernel_rfl
@[simp] theorem tsz_13 : tsz Tryd.prog 13 = some 2 := by kernel_rfl
@[simp] theorem tzero_13 : tzero Tryd.prog 13 = some ([.d (.str []), .d (.int .u64 0)]) := by kernel_rfl
@[simp] theorem tbytes_13 : tbytes Tryd.prog 13 = some 24 := by kernel_rfl
@[simp] theorem tzeroD_13 : tzeroD Tryd.prog 13 = some (.agg ([.str [], .int .u64 0])) := by kernel_rfl
@[simp] theorem foff_13_0 : foff Tryd.prog 13 0 = some 0 := by kernel_rfl
@[simp] theorem foff_13_1 : foff Tryd.prog 13 1 = some 1 := by kernel_rfl
@[simp] theorem fplace_13 : fplace Tryd.prog 13 = some [(0, 1), (1, 1)] := by kernel_rfl
@[simp] theorem tk_14 : tk Tryd.prog 14 = .struct := by kernel_rfl
@[simp] theorem tsz_14 : tsz Tryd.prog 14 = some 2 := by kernel_rfl
@[simp] theorem tzero_14 : tzero Tryd.prog 14 = some ([.d (.str []), .d (.int .u64 0)]) := by kernel_rfl
@[simp] theorem tbytes_14 : tbytes Tryd.prog 14 = some 24 := by kernel_rfl
@[simp] theorem tzeroD_14 : tzeroD Tryd.prog 14 = some (.agg ([.str [], .int .u64 0])) := by kernel_rfl
@[simp] theorem foff_14_0 : foff Tryd.prog 14 0 = some 0 := by kernel_rfl
@[simp] theorem foff_14_1 : foff Tryd.prog 14 1 = some 1 := by kernel_rfl
@[simp] theorem fplace_14 : fplace Tryd.prog 14 = some [(0, 1), (1, 1)] := by kernel_rfl
@[simp] theorem tk_15 : tk Tryd.prog 15 = .ptr 231 := by kernel_rfl
@[simp] theorem tsz_15 : tsz Tryd.prog 15 = some 1 := by kernel_rfl
@[simp] theorem tk_16 : tk Tryd.prog 16 = .ptr 234 := by kernel_rfl
@[simp] theorem tsz_16 : tsz Tryd.prog 16 = some 1 := by kernel_rfl
@[simp] theorem tk_17 : tk Tryd.prog 17 = .ptr 243 := by kernel_rfl
@[simp] theorem tsz_17 : tsz Tryd.prog 17 = some 1 := by kernel_rfl
@[simp] theorem tk_18 : tk Tryd.prog 18 = .struct := by kernel_rfl
@[simp] theorem tsz_18 : tsz Tryd.prog 18 = some 1 := by kernel_rfl
@[simp] theorem tzero_18 : tzero Tryd.prog 18 = some ([.lit (.pointer none)]) := by kernel_rfl
@[simp] theorem foff_18_0 : foff Tryd.prog 18 0 = some 0 := by kernel_rfl
@[simp] theorem fplace_18 : fplace Tryd.prog 18 = some [(0, 1)] := by kernel_rfl
@[simp] theorem tk_19 : tk Tryd.prog 19 = .struct := by kernel_rfl
@[simp] theorem tsz_19 : tsz Tryd.prog 19 = some 1 := by kernel_rfl
@[simp] theorem tzero_19 : tzero Tryd.prog 19 = some ([.lit (.pointer none)]) := by kernel_rfl
@[simp] theorem foff_19_0 : foff Tryd.prog 19 0 = some 0 := by kernel_rfl
@[simp] theorem fplace_19 : fplace Tryd.prog 19 = some [(0, 1)] := by kernel_rfl
@[simp] theorem tk_20 : tk Tryd.prog 20 = .iface := by kernel_rfl
@[simp] theorem tsz_20 : tsz Tryd.prog 20 = some 1 := by kernel_rfl
@[simp] theorem tk_21 : tk Tryd.prog 21 = .int .i32 := by kernel_rfl
@[simp] theorem tsz_21 : tsz Tryd.prog 21 = some 1 := by kernel_rfl
@[simp] theorem tzero_21 : tzero Tryd.prog 21 = some ([.d (.int .i32 0)]) := by kernel_rfl
@[simp] theorem tbytes_21 : tbytes Tryd.prog 21 = some 4 := by kernel_rfl
@[simp] theorem tzeroD_21 : tzeroD Tryd.prog 21 = some (.int .i32 0) := by kernel_rfl
@[simp] theorem tk_22 : tk Tryd.prog 22 = .slice 28 := by kernel_rfl
@[simp] theorem tsz_22 : tsz Tryd.prog 22 = some 1 := by kernel_rfl
@[simp] theorem tzero_22 : tzero Tryd.prog 22 = some ([.lit (.slice none 0 0)]) := by kernel_rfl
@[simp] theorem tbytes_22 : tbytes Tryd.prog 22 = some 24 := by kernel_rfl
@[simp] theorem tzeroD_22 : tzeroD Tryd.prog 22 = some (.list []) := by kernel_rfl
@[simp] theorem srcTy_22 : srcTy Tryd.prog 22 = true := by kernel_rfl
@[simp] theorem tk_23 : tk Tryd.prog 23 = .struct := by kernel_rfl
@[simp] theorem tsz_23 : tsz Tryd.prog 23 = some 3 := by kernel_rfl
@[simp] theorem tzero_23 : tzero Tryd.prog 23 = some ([.lit (.slice none 0 0), .d (.int .i64 0), .d (.int .i64 0)]) := by kernel_rfl
@[simp] theorem tbytes_23 : tbytes Tryd.prog 23 = some 40 := by kernel_rfl
@[simp] theorem tzeroD_23 : tzeroD Tryd.prog 23 = some (.agg ([.list [], .int .i64 0, .int .i64 0])) := by kernel_rfl
@[simp] theorem foff_23_0 : foff Tryd.prog 23 0 = some 0 := by kernel_rfl
@[simp] theorem foff_23_1 : foff Tryd.prog 23 1 = some 1 := by kernel_rfl
@[simp] theorem foff_23_2 : foff Tryd.prog 23 2 = some 2 := by kernel_rfl
@[simp] theorem fplace_23 : fplace Tryd.prog 23 = some [(0, 1), (1, 1), (2, 1)] := by kernel_rfl
@[simp] theorem tk_24 : tk Tryd.prog 24 = .struct := by kernel_rfl
@[simp] theorem tsz_24 : tsz Tryd.prog 24 = some 3 := by kernel_rfl
@[simp] theorem tzero_24 : tzero Tryd.prog 24 = some ([.lit (.slice none 0 0), .d (.int .i64 0), .d (.int .i64 0)]) := by kernel_rfl
@[simp] theorem tbytes_24 : tbytes Tryd.prog 24 = some 40 := by kernel_rfl
@[simp] theorem tzeroD_24 : tzeroD Tryd.prog 24 = some (.agg ([.list [], .int .i64 0, .int .i64 0])) := by kernel_rfl
@[simp] theorem foff_24_0 : foff Tryd.prog 24 0 = some 0 := by kernel_rfl
@[simp] theorem foff_24_1 : foff Tryd.prog 24 1 = some 1 := by kernel_rfl
@[simp] theorem foff_24_2 : foff Tryd.prog 24 2 = some 2 := by kernel_rfl
@[simp] theorem fplace_24 : fplace Tryd.prog 24 = some [(0, 1), (1, 1), (2, 1)] := by kernel_rfl
@[simp] theorem tk_25 : tk Tryd.prog 25 = .func := by kernel_rfl
@[simp] theorem tsz_25 : tsz Tryd.prog 25 = some 1 := by kernel_rfl
@[simp] theorem tk_26 : tk Tryd.prog 26 = .func := by kernel_rfl
@[simp] theorem tsz_26 : tsz Tryd.prog 26 = some 1 := by kernel_rfl
@[simp] theorem tk_27 : tk Tryd.prog 27 = .struct := by kernel_rfl
@[simp] theorem tsz_27 : tsz Tryd.prog 27 = some 5 := by kernel_rfl
@[simp] theorem tzero_27 : tzero Tryd.prog 27 = some ([.d (.int .i64 0), .d (.int .i64 0), .d (.int .i64 0), .d (.int .i64 0), .d (.int .i64 0)]) := by kernel_rfl
@[simp] theorem tbytes_27 : tbytes Tryd.prog 27 = some 40 := by kernel_rfl
@[simp] theorem tzeroD_27 : tzeroD Tryd.prog 27 = some (.agg ([.int .i64 0, .int .i64 0, .int .i64 0, .int .i64 0, .int .i64 0])) := by kernel_rfl
@[simp] theorem foff_27_0 : foff Tryd.prog 27 0 = some 0 := by kernel_rfl
@[simp] theorem foff_27_1 : foff Tryd.prog 27 1 = some 1 := by kernel_rfl
@[simp] theorem foff_27_2 : foff Tryd.prog 27 2 = some 2 := by kernel_rfl
@[simp] theorem foff_27_3 : foff Tryd.prog 27 3 = some 3 := by kernel_rfl
@[simp] theorem foff_27_4 : foff Tryd.prog 27 4 = some 4 := by kernel_rfl
@[simp] theorem fplace_27 : fplace Tryd.prog 27 = some [(0, 1), (1, 1), (2, 1), (3, 1), (4, 1)] := by kernel_rfl
@[simp] theorem flat_27 : flatStruct Tryd.prog 27 = some [.int .i64, .int .i64, .int .i64, .int .i64, .int .i64] := by kernel_rfl
@[simp] theorem tk_28 : tk Tryd.prog 28 = .struct := by kernel_rfl
@[simp] theorem tsz_28 : tsz Tryd.prog 28 = some 5 := by kernel_rfl
@[simp] theorem tzero_28 : tzero Tryd.prog 28 = some ([.d (.int .i64 0), .d (.int .i64 0), .d (.int .i64 0), .d (.int .i64 0), .d (.int .i64 0)]) := by kernel_rfl
@[simp] theorem tbytes_28 : tbytes Tryd.prog 28 = some 40 := by kernel_rfl
@[simp] theorem tzeroD_28 : tzeroD Tryd.prog 28 = some (.agg ([.int .i64 0, .int .i64 0, .int .i64 0, .int .i64 0, .int .i64 0])) := by kernel_rfl
@[simp] theorem foff_28_0 : foff Tryd.prog 28 0 = some 0 := by kernel_rfl
@[simp] theorem foff_28_1 : foff Tryd.prog 28 1 = some 1 := by kernel_rfl
@[simp] theorem foff_28_2 : foff Tryd.prog 28 2 = some 2 := by kernel_rfl
@[simp] theorem foff_28_3 : foff Tryd.prog 28 3 = some 3 := by kernel_rfl
@[simp] theorem foff_28_4 : foff Tryd.prog 28 4 = some 4 := by kernel_rfl
@[simp] theorem fplace_28 : fplace Tryd.prog 28 = some [(0, 1), (1, 1), (2, 1), (3, 1), (4, 1)] := by kernel_rfl
@[simp] theorem flat_28 : flatStruct Tryd.prog 28 = some [.int .i64, .int .i64, .int .i64, .int .i64, .int .i64] := by kernel_rfl
@[simp] theorem tk_29 : tk Tryd.prog 29 = .func := by kernel_rfl
@[simp] theorem tsz_29 : tsz Tryd.prog 29 = some 1 := by kernel_rfl
@[simp] theorem tk_30 : tk Tryd.prog 30 = .slice 33 := by kernel_rfl
@[simp] theorem tsz_30 : tsz Tryd.prog 30 = some 1 := by kernel_rfl
@[simp] theorem tzero_30 : tzero Tryd.prog 30 = some ([.lit (.slice none 0 0)]) := by kernel_rfl
@[simp] theorem tbytes_30 : tbytes Tryd.prog 30 = some 24 := by kernel_rfl
@[simp] theorem tzeroD_30 : tzeroD Tryd.prog 30 = some (.list []) := by kernel_rfl
@[simp] theorem srcTy_30 : srcTy Tryd.prog 30 = true := by kernel_rfl
@[simp] theorem tk_31 : tk Tryd.prog 31 = .int .i64 := by kernel_rfl
@[simp] theorem tsz_31 : tsz Tryd.prog 31 = some 1 := by kernel_rfl
@[simp] theorem tzero_31 : tzero Tryd.prog 31 = some ([.d (.int .i64 0)]) := by kernel_rfl
@[simp] theorem tbytes_31 : tbytes Tryd.prog 31 = some 8 := by kernel_rfl
@[simp] theorem tzeroD_31 : tzeroD Tryd.prog 31 = some (.int .i64 0) := by kernel_rfl
@[simp] theorem tk_32 : tk Tryd.prog 32 = .struct := by kernel_rfl
@[simp] theorem tsz_32 : tsz Tryd.prog 32 = some 5 := by kernel_rfl
@[simp] theorem tzero_32 : tzero Tryd.prog 32 = some ([.d (.int .i64 0), .d (.str []), .d (.int .i64 0), .d (.int .i64 0), .d (.int .i64 0)]) := by kernel_rfl
@[simp] theorem tbytes_32 : tbytes Tryd.prog 32 = some 48 := by kernel_rfl
@[simp] theorem tzeroD_32 : tzeroD Tryd.prog 32 = some (.agg ([.int .i64 0, .str [], .int .i64 0, .int .i64 0, .int .i64 0])) := by kernel_rfl
@[simp] theorem foff_32_0 : foff Tryd.prog 32 0 = some 0 := by kernel_rfl
@[simp] theorem foff_32_1 : foff Tryd.prog 32 1 = some 1 := by kernel_rfl
@[simp] theorem foff_32_2 : foff Tryd.prog 32 2 = some 2 := by kernel_rfl
@[simp] theorem foff_32_3 : foff Tryd.prog 32 3 = some 3 := by kernel_rfl
@[simp] theorem foff_32_4 : foff Tryd.prog 32 4 = some 4 := by kernel_rfl
@[simp] theorem fplace_32 : fplace Tryd.prog 32 = some [(0, 1), (1, 1), (2, 1), (3, 1), (4, 1)] := by kernel_rfl
@[simp] theorem flat_32 : flatStruct Tryd.prog 32 = some [.int .i64, .str, .int .i64, .int .i64, .int .i64] := by kernel_rfl
@[simp] theorem tk_33 : tk Tryd.prog 33 = .struct := by kernel_rfl
@[simp] theorem tsz_33 : tsz Tryd.prog 33 = some 5 := by kernel_rfl
@[simp] theorem tzero_33 : tzero Tryd.prog 33 = some ([.d (.int .i64 0), .d (.str []), .d (.int .i64 0), .d (.int .i64 0), .d (.int .i64 0)]) := by kernel_rfl
@[simp] theorem tbytes_33 : tbytes Tryd.prog 33 = some 48 := by kernel_rfl
@[simp] theorem tzeroD_33 : tzeroD Tryd.prog 33 = some (.agg ([.int .i64 0, .str [], .int .i64 0, .int .i64 0, .int .i64 0])) := by kernel_rfl
@[simp] theorem foff_33_0 : foff Tryd.prog 33 0 = some 0 := by kernel_rfl
@[simp] theorem foff_33_1 : foff Tryd.prog 33 1 = some 1 := by kernel_rfl
@[simp] theorem foff_33_2 : foff Tryd.prog 33 2 = some 2 := by kernel_rfl
@[simp] theorem foff_33_3 : foff Tryd.prog 33 3 = some 3 := by kernel_rfl
@[simp] theorem foff_33_4 : foff Tryd.prog 33 4 = some 4 := by kernel_rfl
@[simp] theorem fplace_33 : fplace Tryd.prog 33 = some [(0, 1), (1, 1), (2, 1), (3, 1), (4, 1)] := by kernel_rfl
@[simp] theorem flat_33 : flatStruct Tryd.prog 33 = some [.int .i64, .str, .int .i64, .int .i64, .int .i64] := by kernel_rfl
@[simp] theorem tk_35 : tk Tryd.prog 35 = .func := by kernel_rfl
@[simp] theorem tsz_35 : tsz Tryd.prog 35 = some 1 := by kernel_rfl
@[simp] theorem tk_37 : tk Tryd.prog 37 = .func := by kernel_rfl
@[simp] theorem tsz_37 : tsz Tryd.prog 37 = some 1 := by kernel_rfl
@[simp] theorem tk_38 : tk Tryd.prog 38 = .func := by kernel_rfl
@[simp] theorem tsz_38 : tsz Tryd.prog 38 = some 1 := by kernel_rfl
@[simp] theorem tk_39 : tk Tryd.prog 39 = .func := by kernel_rfl
@[simp] theorem tsz_39 : tsz Tryd.prog 39 = some 1 := by kernel_rfl
@[simp] theorem tk_40 : tk Tryd.prog 40 = .slice 5 := by kernel_rfl
@[simp] theorem tsz_40 : tsz Tryd.prog 40 = some 1 := by kernel_rfl
@[simp] theorem tzero_40 : tzero Tryd.prog 40 = some ([.lit (.slice none 0 0)]) := by kernel_rfl
@[simp] theorem tbytes_40 : tbytes Tryd.prog 40 = some 24 := by kernel_rfl
@[simp] theorem tzeroD_40 : tzeroD Tryd.prog 40 = some (.list []) := by kernel_rfl
@[simp] theorem srcTy_40 : srcTy Tryd.prog 40 = true := by kernel_rfl
@[simp] theorem tk_41 : tk Tryd.prog 41 = .slice 9 := by kernel_rfl
@[simp] theorem tsz_41 : tsz Tryd.prog 41 = some 1 := by kernel_rfl
@[simp] theorem tzero_41 : tzero Tryd.prog 41 = some ([.lit (.slice none 0 0)]) := by kernel_rfl
@[simp] theorem tbytes_41 : tbytes Tryd.prog 41 = some 24 := by kernel_rfl
@[simp] theorem tzeroD_41 : tzeroD Tryd.prog 41 = some (.list []) := by kernel_rfl
@[simp] theorem srcTy_41 : srcTy Tryd.prog 41 = true := by kernel_rfl
@[simp] theorem tk_42 : tk Tryd.prog 42 = .func := by kernel_rfl
@[simp] theorem tsz_42 : tsz Tryd.prog 42 = some 1 := by kernel_rfl
@[simp] theorem tk_43 : tk Tryd.prog 43 = .int .u64 := by kernel_rfl
@[simp] theorem tsz_43 : tsz Tryd.prog 43 = some 1 := by kernel_rfl
@[simp] theorem tzero_43 : tzero Tryd.prog 43 = some ([.d (.int .u64 0)]) := by kernel_rfl
@[simp] theorem tbytes_43 : tbytes Tryd.prog 43 = some 8 := by kernel_rfl
@[simp] theorem tzeroD_43 : tzeroD Tryd.prog 43 = some (.int .u64 0) := by kernel_rfl
@[simp] theorem tk_44 : tk Tryd.prog 44 = .slice 43 := by kernel_rfl
@[simp] theorem tsz_44 : tsz Tryd.prog 44 = some 1 := by kernel_rfl
@[simp] theorem tzero_44 : tzero Tryd.prog 44 = some ([.lit (.slice none 0 0)]) := by kernel_rfl
@[simp] theorem tbytes_44 : tbytes Tryd.prog 44 = some 24 := by kernel_rfl
@[simp] theorem tzeroD_44 : tzeroD Tryd.prog 44 = some (.list []) := by kernel_rfl
@[simp] theorem srcTy_44 : srcTy Tryd.prog 44 = true := by kernel_rfl
@[simp] theorem tk_45 : tk Tryd.prog 45 = .func := by kernel_rfl
@[simp] theorem tsz_45 : tsz Tryd.prog 45 = some 1 := by kernel_rfl
@[simp] theorem tk_47 : tk Tryd.prog 47 = .func := by kernel_rfl
@[simp] theorem tsz_47 : tsz Tryd.prog 47 = some 1 := by kernel_rfl
@[simp] theorem tk_48 : tk Tryd.prog 48 = .slice 4 := by kernel_rfl
@[simp] theorem tsz_48 : tsz Tryd.prog 48 = some 1 := by kernel_rfl
@[simp] theorem tzero_48 : tzero Tryd.prog 48 = some ([.lit (.slice none 0 0)]) := by kernel_rfl
@[simp] theorem tbytes_48 : tbytes Tryd.prog 48 = some 24 := by kernel_rfl
@[simp] theorem tzeroD_48 : tzeroD Tryd.prog 48 = some (.list []) := by kernel_rfl
@[simp] theorem srcTy_48 : srcTy Tryd.prog 48 = true := by kernel_rfl
@[simp] theorem tk_50 : tk Tryd.prog 50 = .func := by kernel_rfl
@[simp] theorem tsz_50 : tsz Tryd.prog 50 = some 1 := by kernel_rfl
@[simp] theorem tk_52 : tk Tryd.prog 52 = .func := by kernel_rfl
@[simp] theorem tsz_52 : tsz Tryd.prog 52 = some 1 := by kernel_rfl
@[simp] theorem tk_53 : tk Tryd.prog 53 = .func := by kernel_rfl
@[simp] theorem tsz_53 : tsz Tryd.prog 53 = some 1 := by kernel_rfl
@[simp] theorem tk_54 : tk Tryd.prog 54 = .func := by kernel_rfl
@[simp] theorem tsz_54 : tsz Tryd.prog 54 = some 1 := by kernel_rfl
@[simp] theorem tk_56 : tk Tryd.prog 56 = .func := by kernel_rfl
@[simp] theorem tsz_56 : tsz Tryd.prog 56 = some 1 := by kernel_rfl
@[simp] theorem tk_57 : tk Tryd.prog 57 = .func := by kernel_rfl
@[simp] theorem tsz_57 : tsz Tryd.prog 57 = some 1 := by kernel_rfl
@[simp] theorem tk_58 : tk Tryd.prog 58 = .func := by kernel_rfl
@[simp] theorem tsz_58 : tsz Tryd.prog 58 = some 1 := by kernel_rfl
@[simp] theorem tk_59 : tk Tryd.prog 59 = .slice 2 := by kernel_rfl
@[simp] theorem tsz_59 : tsz Tryd.prog 59 = some 1 := by kernel_rfl
@[simp] theorem tzero_59 : tzero Tryd.prog 59 = some ([.lit (.slice none 0 0)]) := by kernel_rfl
@[simp] theorem tbytes_59 : tbytes Tryd.prog 59 = some 24 := by kernel_rfl
@[simp] theorem tzeroD_59 : tzeroD Tryd.prog 59 = some (.list []) := by kernel_rfl
@[simp] theorem srcTy_59 : srcTy Tryd.prog 59 = true := by kernel_rfl
@[simp] theorem tk_60 : tk Tryd.prog 60 = .struct := by kernel_rfl
@[simp] theorem tsz_60 : tsz Tryd.prog 60 = some 3 := by kernel_rfl
@[simp] theorem tzero_60 : tzero Tryd.prog 60 = some ([.lit (.slice none 0 0), .d (.int .i64 0), .d (.int .i64 0)]) := by kernel_rfl
@[simp] theorem tbytes_60 : tbytes Tryd.prog 60 = some 40 := by kernel_rfl
@[simp] theorem tzeroD_60 : tzeroD Tryd.prog 60 = some (.agg ([.list [], .int .i64 0, .int .i64 0])) := by kernel_rfl
@[simp] theorem foff_60_0 : foff Tryd.prog 60 0 = some 0 := by kernel_rfl
@[simp] theorem foff_60_1 : foff Tryd.prog 60 1 = some 1 := by kernel_rfl
@[simp] theorem foff_60_2 : foff Tryd.prog 60 2 = some 2 := by kernel_rfl
@[simp] theorem fplace_60 : fplace Tryd.prog 60 = some [(0, 1), (1, 1), (2, 1)] := by kernel_rfl
@[simp] theorem tk_61 : tk Tryd.prog 61 = .struct := by kernel_rfl
@[simp] theorem tsz_61 : tsz Tryd.prog 61 = some 3 := by kernel_rfl
@[simp] theorem tzero_61 : tzero Tryd.prog 61 = some ([.lit (.slice none 0 0), .d (.int .i64 0), .d (.int .i64 0)]) := by kernel_rfl
@[simp] theorem tbytes_61 : tbytes Tryd.prog 61 = some 40 := by kernel_rfl
@[simp] theorem tzeroD_61 : tzeroD Tryd.prog 61 = some (.agg ([.list [], .int .i64 0, .int .i64 0])) := by kernel_rfl
@[simp] theorem foff_61_0 : foff Tryd.prog 61 0 = some 0 := by kernel_rfl
@[simp] theorem foff_61_1 : foff Tryd.prog 61 1 = some 1 := by kernel_rfl
@[simp] theorem foff_61_2 : foff Tryd.prog 61 2 = some 2 := by kernel_rfl
@[simp] theorem fplace_61 : fplace Tryd.prog 61 = some [(0, 1), (1, 1), (2, 1)] := by kernel_rfl
@[simp] theorem tk_62 : tk Tryd.prog 62 = .func := by kernel_rfl
@[simp] theorem tsz_62 : tsz Tryd.prog 62 = some 1 := by kernel_rfl
@[simp] theorem tk_63 : tk Tryd.prog 63 = .func := by kernel_rfl
@[simp] theorem tsz_63 : tsz Tryd.prog 63 = some 1 := by kernel_rfl
@[simp] theorem tk_64 : tk Tryd.prog 64 = .func := by kernel_rfl
@[simp] theorem tsz_64 : tsz Tryd.prog 64 = some 1 := by kernel_rfl
@[simp] theorem tk_65 : tk Tryd.prog 65 = .func := by kernel_rfl
@[simp] theorem tsz_65 : tsz Tryd.prog 65 = some 1 := by kernel_rfl
@[simp] theorem tk_66 : tk Tryd.prog 66 = .ptr 68 := by kernel_rfl
@[simp] theorem tsz_66 : tsz Tryd.prog 66 = some 1 := by kernel_rfl
@[simp] theorem tk_67 : tk Tryd.prog 67 = .struct := by kernel_rfl
@[simp] theorem tsz_67 : tsz Tryd.prog 67 = some 5 := by kernel_rfl
@[simp] theorem tzero_67 : tzero Tryd.prog 67 = some ([.lit (.slice none 0 0), .d (.int .i64 0), .d (.int .i64 0), .lit (.slice none 0 0), .lit (.slice none 0 0)]) := by kernel_rfl
@[simp] theorem tbytes_67 : tbytes Tryd.prog 67 = some 88 := by kernel_rfl
@[simp] theorem tzeroD_67 : tzeroD Tryd.prog 67 = some (.agg ([.list [], .int .i64 0, .int .i64 0, .list [], .list []])) := by kernel_rfl
@[simp] theorem foff_67_0 : foff Tryd.prog 67 0 = some 0 := by kernel_rfl
@[simp] theorem foff_67_1 : foff Tryd.prog 67 1 = some 3 := by kernel_rfl
@[simp] theorem foff_67_2 : foff Tryd.prog 67 2 = some 4 := by kernel_rfl
@[simp] theorem fplace_67 : fplace Tryd.prog 67 = some [(0, 3), (3, 1), (4, 1)] := by kernel_rfl
@[simp] theorem tk_68 : tk Tryd.prog 68 = .struct := by kernel_rfl
@[simp] theorem tsz_68 : tsz Tryd.prog 68 = some 5 := by kernel_rfl
@[simp] theorem tzero_68 : tzero Tryd.prog 68 = some ([.lit (.slice none 0 0), .d (.int .i64 0), .d (.int .i64 0), .lit (.slice none 0 0), .lit (.slice none 0 0)]) := by kernel_rfl
@[simp] theorem tbytes_68 : tbytes Tryd.prog 68 = some 88 := by kernel_rfl
@[simp] theorem tzeroD_68 : tzeroD Tryd.prog 68 = some (.agg ([.list [], .int .i64 0, .int .i64 0, .list [], .list []])) := by kernel_rfl
@[simp] theorem foff_68_0 : foff Tryd.prog 68 0 = some 0 := by kernel_rfl
@[simp] theorem foff_68_1 : foff Tryd.prog 68 1 = some 3 := by kernel_rfl
@[simp] theorem foff_68_2 : foff Tryd.prog 68 2 = some 4 := by kernel_rfl
@[simp] theorem fplace_68 : fplace Tryd.prog 68 = some [(0, 3), (3, 1), (4, 1)] := by kernel_rfl
@[simp] theorem tk_69 : tk Tryd.prog 69 = .func := by kernel_rfl
@[simp] theorem tsz_69 : tsz Tryd.prog 69 = some 1 := by kernel_rfl
@[simp] theorem tk_70 : tk Tryd.prog 70 = .arr 70 4 := by kernel_rfl
@[simp] theorem tsz_70 : tsz Tryd.prog 70 = some 70 := by kernel_rfl
@[simp] theorem tzero_70 : tzero Tryd.prog 70 = some (List.replicate 70 (.d (.bool false))) := by kernel_rfl
@[simp] theorem tbytes_70 : tbytes Tryd.prog 70 = some 70 := by kernel_rfl
@[simp] theorem tzeroD_70 : tzeroD Tryd.prog 70 = some (.agg (List.replicate 70 (.bool false))) := by kernel_rfl
@[simp] theorem fplace_70 : fplace Tryd.prog 70 = none := by kernel_rfl
@[simp] theorem tk_72 : tk Tryd.prog 72 = .func := by kernel_rfl
@[simp] theorem tsz_72 : tsz Tryd.prog 72 = some 1 := by kernel_rfl
@[simp] theorem tk_73 : tk Tryd.prog 73 = .ptr 75 := by kernel_rfl
@[simp] theorem tsz_73 : tsz Tryd.prog 73 = some 1 := by kernel_rfl
@[simp] theorem tk_74 : tk Tryd.prog 74 = .struct := by kernel_rfl
@[simp] theorem tsz_74 : tsz Tryd.prog 74 = some 4 := by kernel_rfl
@[simp] theorem tzero_74 : tzero Tryd.prog 74 = some ([.d (.str []), .d (.int .i64 0), .d (.int .i64 0), .d (.int .i64 0)]) := by kernel_rfl
@[simp] theorem tbytes_74 : tbytes Tryd.prog 74 = some 40 := by kernel_rfl
@[simp] theorem tzeroD_74 : tzeroD Tryd.prog 74 = some (.agg ([.str [], .int .i64 0, .int .i64 0, .int .i64 0])) := by kernel_rfl
@[simp] theorem foff_74_0 : foff Tryd.prog 74 0 = some 0 := by kernel_rfl
@[simp] theorem foff_74_1 : foff Tryd.prog 74 1 = some 1 := by kernel_rfl
@[simp] theorem foff_74_2 : foff Tryd.prog 74 2 = some 2 := by kernel_rfl
@[simp] theorem foff_74_3 : foff Tryd.prog 74 3 = some 3 := by kernel_rfl
@[simp] theorem fplace_74 : fplace Tryd.prog 74 = some [(0, 1), (1, 1), (2, 1), (3, 1)] := by kernel_rfl
@[simp] theorem flat_74 : flatStruct Tryd.prog 74 = some [.str, .int .i64, .int .i64, .int .i64] := by kernel_rfl
@[simp] theorem tk_75 : tk Tryd.prog 75 = .struct := by kernel_rfl
@[simp] theorem tsz_75 : tsz Tryd.prog 75 = some 4 := by kernel_rfl
@[simp] theorem tzero_75 : tzero Tryd.prog 75 = some ([.d (.str []), .d (.int .i64 0), .d (.int .i64 0), .d (.int .i64 0)]) := by kernel_rfl
@[simp] theorem tbytes_75 : tbytes Tryd.prog 75 = some 40 := by kernel_rfl
@[simp] theorem tzeroD_75 : tzeroD Tryd.prog 75 = some (.agg ([.str [], .int .i64 0, .int .i64 0, .int .i64 0])) := by kernel_rfl
@[simp] theorem foff_75_0 : foff Tryd.prog 75 0 = some 0 := by kernel_rfl
@[simp] theorem foff_75_1 : foff Tryd.prog 75 1 = some 1 := by kernel_rfl
@[simp] theorem foff_75_2 : foff Tryd.prog 75 2 = some 2 := by kernel_rfl
@[simp] theorem foff_75_3 : foff Tryd.prog 75 3 = some 3 := by kernel_rfl
@[simp] theorem fplace_75 : fplace Tryd.prog 75 = some [(0, 1), (1, 1), (2, 1), (3, 1)] := by kernel_rfl
@[simp] theorem flat_75 : flatStruct Tryd.prog 75 = some [.str, .int .i64, .int .i64, .int .i64] := by kernel_rfl
@[simp] theorem tk_76 : tk Tryd.prog 76 = .func := by kernel_rfl
@[simp] theorem tsz_76 : tsz Tryd.prog 76 = some 1 := by kernel_rfl
@[simp] theorem tk_78 : tk Tryd.prog 78 = .func := by kernel_rfl
@[simp] theorem tsz_78 : tsz Tryd.prog 78 = some 1 := by kernel_rfl
@[simp] theorem tk_79 : tk Tryd.prog 79 = .func := by kernel_rfl
@[simp] theorem tsz_79 : tsz Tryd.prog 79 = some 1 := by kernel_rfl
@[simp] theorem tk_81 : tk Tryd.prog 81 = .func := by kernel_rfl
@[simp] theorem tsz_81 : tsz Tryd.prog 81 = some 1 := by kernel_rfl
@[simp] theorem tk_82 : tk Tryd.prog 82 = .func := by kernel_rfl
@[simp] theorem tsz_82 : tsz Tryd.prog 82 = some 1 := by kernel_rfl
@[simp] theorem tk_83 : tk Tryd.prog 83 = .func := by kernel_rfl
@[simp] theorem tsz_83 : tsz Tryd.prog 83 = some 1 := by kernel_rfl
@[simp] theorem tk_85 : tk Tryd.prog 85 = .func := by kernel_rfl
@[simp] theorem tsz_85 : tsz Tryd.prog 85 = some 1 := by kernel_rfl
@[simp] theorem tk_86 : tk Tryd.prog 86 = .func := by kernel_rfl
@[simp] theorem tsz_86 : tsz Tryd.prog 86 = some 1 := by kernel_rfl
@[simp] theorem tk_87 : tk Tryd.prog 87 = .func := by kernel_rfl
@[simp] theorem tsz_87 : tsz Tryd.prog 87 = some 1 := by kernel_rfl
@[simp] theorem tk_88 : tk Tryd.prog 88 = .func := by kernel_rfl
@[simp] theorem tsz_88 : tsz Tryd.prog 88 = some 1 := by kernel_rfl
@[simp] theorem tk_89 : tk Tryd.prog 89 = .func := by kernel_rfl
@[simp] theorem tsz_89 : tsz Tryd.prog 89 = some 1 := by kernel_rfl
@[simp] theorem tk_91 : tk Tryd.prog 91 = .func := by kernel_rfl
@[simp] theorem tsz_91 : tsz Tryd.prog 91 = some 1 := by kernel_rfl
@[simp] theorem tk_92 : tk Tryd.prog 92 = .func := by kernel_rfl
@[simp] theorem tsz_92 : tsz Tryd.prog 92 = some 1 := by kernel_rfl
@[simp] theorem tk_93 : tk Tryd.prog 93 = .func := by kernel_rfl
@[simp] theorem tsz_93 : tsz Tryd.prog 93 = some 1 := by kernel_rfl
@[simp] theorem tk_94 : tk Tryd.prog 94 = .slice 3 := by kernel_rfl
@[simp] theorem tsz_94 : tsz Tryd.prog 94 = some 1 := by kernel_rfl
@[simp] theorem tzero_94 : tzero Tryd.prog 94 = some ([.lit (.slice none 0 0)]) := by kernel_rfl
@[simp] theorem tbytes_94 : tbytes Tryd.prog 94 = some 24 := by kernel_rfl
@[simp] theorem tzeroD_94 : tzeroD Tryd.prog 94 = some (.list []) := by kernel_rfl
@[simp] theorem srcTy_94 : srcTy Tryd.prog 94 = true := by kernel_rfl
@[simp] theorem tk_95 : tk Tryd.prog 95 = .func := by kernel_rfl
@[simp] theorem tsz_95 : tsz Tryd.prog 95 = some 1 := by kernel_rfl
@[simp] theorem tk_96 : tk Tryd.prog 96 = .func := by kernel_rfl
@[simp] theorem tsz_96 : tsz Tryd.prog 96 = some 1 := by kernel_rfl
@[simp] theorem tk_97 : tk Tryd.prog 97 = .int .u16 := by kernel_rfl
@[simp] theorem tsz_97 : tsz Tryd.prog 97 = some 1 := by kernel_rfl
@[simp] theorem tzero_97 : tzero Tryd.prog 97 = some ([.d (.int .u16 0)]) := by kernel_rfl
@[simp] theorem tbytes_97 : tbytes Tryd.prog 97 = some 2 := by kernel_rfl
@[simp] theorem tzeroD_97 : tzeroD Tryd.prog 97 = some (.int .u16 0) := by kernel_rfl
@[simp] theorem tk_98 : tk Tryd.prog 98 = .func := by kernel_rfl
@[simp] theorem tsz_98 : tsz Tryd.prog 98 = some 1 := by kernel_rfl
@[simp] theorem tk_99 : tk Tryd.prog 99 = .func := by kernel_rfl
@[simp] theorem tsz_99 : tsz Tryd.prog 99 = some 1 := by kernel_rfl
@[simp] theorem tk_100 : tk Tryd.prog 100 = .arr 4 43 := by kernel_rfl
@[simp] theorem tsz_100 : tsz Tryd.prog 100 = some 4 := by kernel_rfl
@[simp] theorem tzero_100 : tzero Tryd.prog 100 = some ([.d (.int .u64 0), .d (.int .u64 0), .d (.int .u64 0), .d (.int .u64 0)]) := by kernel_rfl
@[simp] theorem tbytes_100 : tbytes Tryd.prog 100 = some 32 := by kernel_rfl
@[simp] theorem tzeroD_100 : tzeroD Tryd.prog 100 = some (.agg ([.int .u64 0, .int .u64 0, .int .u64 0, .int .u64 0])) := by kernel_rfl
@[simp] theorem fplace_100 : fplace Tryd.prog 100 = none := by kernel_rfl
@[simp] theorem tk_101 : tk Tryd.prog 101 = .arr 4 3 := by kernel_rfl
@[simp] theorem tsz_101 : tsz Tryd.prog 101 = some 4 := by kernel_rfl
@[simp] theorem tzero_101 : tzero Tryd.prog 101 = some ([.d (.int .i64 0), .d (.int .i64 0), .d (.int .i64 0), .d (.int .i64 0)]) := by kernel_rfl
@[simp] theorem tbytes_101 : tbytes Tryd.prog 101 = some 32 := by kernel_rfl
@[simp] theorem tzeroD_101 : tzeroD Tryd.prog 101 = some (.agg ([.int .i64 0, .int .i64 0, .int .i64 0, .int .i64 0])) := by kernel_rfl
@[simp] theorem fplace_101 : fplace Tryd.prog 101 = none := by kernel_rfl
@[simp] theorem tk_102 : tk Tryd.prog 102 = .arr 16 101 := by kernel_rfl
@[simp] theorem tsz_102 : tsz Tryd.prog 102 = some 64 := by kernel_rfl
@[simp] theorem tzero_102 : tzero Tryd.prog 102 = some (List.replicate 64 (.d (.int .i64 0))) := by kernel_rfl
@[simp] theorem tbytes_102 : tbytes Tryd.prog 102 = some 512 := by kernel_rfl
@[simp] theorem tzeroD_102 : tzeroD Tryd.prog 102 = some (.agg (List.replicate 64 (.int .i64 0))) := by kernel_rfl
@[simp] theorem fplace_102 : fplace Tryd.prog 102 = none := by kernel_rfl
@[simp] theorem tk_103 : tk Tryd.prog 103 = .func := by kernel_rfl
@[simp] theorem tsz_103 : tsz Tryd.prog 103 = some 1 := by kernel_rfl
@[simp] theorem tk_104 : tk Tryd.prog 104 = .func := by kernel_rfl
@[simp] theorem tsz_104 : tsz Tryd.prog 104 = some 1 := by kernel_rfl
@[simp] theorem tk_105 : tk Tryd.prog 105 = .func := by kernel_rfl
@[simp] theorem tsz_105 : tsz Tryd.prog 105 = some 1 := by kernel_rfl
@[simp] theorem tk_106 : tk Tryd.prog 106 = .ptr 108 := by kernel_rfl
@[simp] theorem tsz_106 : tsz Tryd.prog 106 = some 1 := by kernel_rfl
@[simp] theorem tk_107 : tk Tryd.prog 107 = .struct := by kernel_rfl
@[simp] theorem tsz_107 : tsz Tryd.prog 107 = some 2 := by kernel_rfl
@[simp] theorem tzero_107 : tzero Tryd.prog 107 = some ([.lit (.slice none 0 0), .d (.int .i64 0)]) := by kernel_rfl
@[simp] theorem tbytes_107 : tbytes Tryd.prog 107 = some 32 := by kernel_rfl
@[simp] theorem tzeroD_107 : tzeroD Tryd.prog 107 = some (.agg ([.list [], .int .i64 0])) := by kernel_rfl
@[simp] theorem foff_107_0 : foff Tryd.prog 107 0 = some 0 := by kernel_rfl
@[simp] theorem foff_107_1 : foff Tryd.prog 107 1 = some 1 := by kernel_rfl
@[simp] theorem fplace_107 : fplace Tryd.prog 107 = some [(0, 1), (1, 1)] := by kernel_rfl
@[simp] theorem tk_108 : tk Tryd.prog 108 = .struct := by kernel_rfl
@[simp] theorem tsz_108 : tsz Tryd.prog 108 = some 2 := by kernel_rfl
@[simp] theorem tzero_108 : tzero Tryd.prog 108 = some ([.lit (.slice none 0 0), .d (.int .i64 0)]) := by kernel_rfl
@[simp] theorem tbytes_108 : tbytes Tryd.prog 108 = some 32 := by kernel_rfl
@[simp] theorem tzeroD_108 : tzeroD Tryd.prog 108 = some (.agg ([.list [], .int .i64 0])) := by kernel_rfl
@[simp] theorem foff_108_0 : foff Tryd.prog 108 0 = some 0 := by kernel_rfl
@[simp] theorem foff_108_1 : foff Tryd.prog 108 1 = some 1 := by kernel_rfl
@[simp] theorem fplace_108 : fplace Tryd.prog 108 = some [(0, 1), (1, 1)] := by kernel_rfl
@[simp] theorem tk_109 : tk Tryd.prog 109 = .func := by kernel_rfl
@[simp] theorem tsz_109 : tsz Tryd.prog 109 = some 1 := by kernel_rfl
@[simp] theorem tk_110 : tk Tryd.prog 110 = .func := by kernel_rfl
@[simp] theorem tsz_110 : tsz Tryd.prog 110 = some 1 := by kernel_rfl
@[simp] theorem tk_111 : tk Tryd.prog 111 = .func := by kernel_rfl
@[simp] theorem tsz_111 : tsz Tryd.prog 111 = some 1 := by kernel_rfl
@[simp] theorem tk_112 : tk Tryd.prog 112 = .ptr 115 := by kernel_rfl
@[simp] theorem tsz_112 : tsz Tryd.prog 112 = some 1 := by kernel_rfl
@[simp] theorem tk_113 : tk Tryd.prog 113 = .arr 64 2 := by kernel_rfl
@[simp] theorem tsz_113 : tsz Tryd.prog 113 = some 64 := by kernel_rfl
@[simp] theorem tzero_113 : tzero Tryd.prog 113 = some (List.replicate 64 (.d (.int .i64 0))) := by kernel_rfl
@[simp] theorem tbytes_113 : tbytes Tryd.prog 113 = some 512 := by kernel_rfl
@[simp] theorem tzeroD_113 : tzeroD Tryd.prog 113 = some (.agg (List.replicate 64 (.int .i64 0))) := by kernel_rfl
@[simp] theorem fplace_113 : fplace Tryd.prog 113 = none := by kernel_rfl
@[simp] theorem tk_114 : tk Tryd.prog 114 = .struct := by kernel_rfl
@[simp] theorem tsz_114 : tsz Tryd.prog 114 = some 72 := by kernel_rfl
@[simp] theorem tzero_114 : tzero Tryd.prog 114 = some ([.lit (.slice none 0 0), .d (.int .i64 0), .d (.int .i64 0), .lit (.slice none 0 0), .d (.int .i64 0), .d (.int .i64 0), .d (.int .i64 0), .d (.int .i64 0), .d (.int .i64 0), .d (.int .i64 0), .d (.int .i64 0), .d (.int .i64 0), .d (.int .i64 0), .d (.int .i64 0), .d (.int .i64 0), .d (.int .i64 0), .d (.int .i64 0), .d (.int .i64 0), .d (.int .i64 0), .d (.int .i64 0), .d (.int .i64 0), .d (.int .i64 0), .d (.int .i64 0), .d (.int .i64 0), .d (.int .i64 0), .d (.int .i64 0), .d (.int .i64 0), .d (.int .i64 0), .d (.int .i64 0), .d (.int .i64 0), .d (.int .i64 0), .d (.int .i64 0), .d (.int .i64 0), .d (.int .i64 0), .d (.int .i64 0), .d (.int .i64 0), .d (.int .i64 0), .d (.int .i64 0), .d (.int .i64 0), .d (.int .i64 0), .d (.int .i64 0), .d (.int .i64 0), .d (.int .i64 0), .d (.int .i64 0), .d (.int .i64 0), .d (.int .i64 0), .d (.int .i64 0), .d (.int .i64 0), .d (.int .i64 0), .d (.int .i64 0), .d (.int .i64 0), .d (.int .i64 0), .d (.int .i64 0), .d (.int .i64 0), .d (.int .i64 0), .d (.int .i64 0), .d (.int .i64 0), .d (.int .i64 0), .d (.int .i64 0), .d (.int .i64 0), .d (.int .i64 0), .d (.int .i64 0), .d (.int .i64 0), .d (.int .i64 0), .d (.int .i64 0), .d (.int .i64 0), .d (.int .i64 0), .d (.int .i64 0), .d (.int .i64 0), .d (.int .i64 0), .d (.int .i64 0), .d (.int .i64 0)]) := by kernel_rfl
@[simp] theorem tbytes_114 : tbytes Tryd.prog 114 = some 608 := by kernel_rfl
@[simp] theorem tzeroD_114 : tzeroD Tryd.prog 114 = some (.agg ([.list [], .int .i64 0, .int .i64 0, .list [], .int .i64 0, .int .i64 0, .int .i64 0, .int .i64 0, .int .i64 0, .int .i64 0, .int .i64 0, .int .i64 0, .int .i64 0, .int .i64 0, .int .i64 0, .int .i64 0, .int .i64 0, .int .i64 0, .int .i64 0, .int .i64 0, .int .i64 0, .int .i64 0, .int .i64 0, .int .i64 0, .int .i64 0, .int .i64 0, .int .i64 0, .int .i64 0, .int .i64 0, .int .i64 0, .int .i64 0, .int .i64 0, .int .i64 0, .int .i64 0, .int .i64 0, .int .i64 0, .int .i64 0, .int .i64 0, .int .i64 0, .int .i64 0, .int .i64 0, .int .i64 0, .int .i64 0, .int .i64 0, .int .i64 0, .int .i64 0, .int .i64 0, .int .i64 0, .int .i64 0, .int .i64 0, .int .i64 0, .int .i64 0, .int .i64 0, .int .i64 0, .int .i64 0, .int .i64 0, .int .i64 0, .int .i64 0, .int .i64 0, .int .i64 0, .int .i64 0, .int .i64 0, .int .i64 0, .int .i64 0, .int .i64 0, .int .i64 0, .int .i64 0, .int .i64 0, .int .i64 0, .int .i64 0, .int .i64 0, .int .i64 0])) := by kernel_rfl
@[simp] theorem foff_114_0 : foff Tryd.prog 114 0 = some 0 := by kernel_rfl
@[simp] theorem foff_114_1 : foff Tryd.prog 114 1 = some 3 := by kernel_rfl
@[simp] theorem foff_114_2 : foff Tryd.prog 114 2 = some 4 := by kernel_rfl
@[simp] theorem foff_114_3 : foff Tryd.prog 114 3 = some 68 := by kernel_rfl
@[simp] theorem foff_114_4 : foff Tryd.prog 114 4 = some 69 := by kernel_rfl
@[simp] theorem foff_114_5 : foff Tryd.prog 114 5 = some 70 := by kernel_rfl
@[simp] theorem foff_114_6 : foff Tryd.prog 114 6 = some 71 := by kernel_rfl
@[simp] theorem fplace_114 : fplace Tryd.prog 114 = some [(0, 3), (3, 1), (4, 64), (68, 1), (69, 1), (70, 1), (71, 1)] := by kernel_rfl
@[simp] theorem tk_115 : tk Tryd.prog 115 = .struct := by kernel_rfl
@[simp] theorem tsz_115 : tsz Tryd.prog 115 = some 72 := by kernel_rfl
@[simp] theorem tzero_115 : tzero Tryd.prog 115 = some ([.lit (.slice none 0 0), .d (.int .i64 0), .d (.int .i64 0), .lit (.slice none 0 0), .d (.int .i64 0), .d (.int .i64 0), .d (.int .i64 0), .d (.int .i64 0), .d (.int .i64 0), .d (.int .i64 0), .d (.int .i64 0), .d (.int .i64 0), .d (.int .i64 0), .d (.int .i64 0), .d (.int .i64 0), .d (.int .i64 0), .d (.int .i64 0), .d (.int .i64 0), .d (.int .i64 0), .d (.int .i64 0), .d (.int .i64 0), .d (.int .i64 0), .d (.int .i64 0), .d (.int .i64 0), .d (.int .i64 0), .d (.int .i64 0), .d (.int .i64 0), .d (.int .i64 0), .d (.int .i64 0), .d (.int .i64 0), .d (.int .i64 0), .d (.int .i64 0), .d (.int .i64 0), .d (.int .i64 0), .d (.int .i64 0), .d (.int .i64 0), .d (.int .i64 0), .d (.int .i64 0), .d (.int .i64 0), .d (.int .i64 0), .d (.int .i64 0), .d (.int .i64 0), .d (.int .i64 0), .d (.int .i64 0), .d (.int .i64 0), .d (.int .i64 0), .d (.int .i64 0), .d (.int .i64 0), .d (.int .i64 0), .d (.int .i64 0), .d (.int .i64 0), .d (.int .i64 0), .d (.int .i64 0), .d (.int .i64 0), .d (.int .i64 0), .d (.int .i64 0), .d (.int .i64 0), .d (.int .i64 0), .d (.int .i64 0), .d (.int .i64 0), .d (.int .i64 0), .d (.int .i64 0), .d (.int .i64 0), .d (.int .i64 0), .d (.int .i64 0), .d (.int .i64 0), .d (.int .i64 0), .d (.int .i64 0), .d (.int .i64 0), .d (.int .i64 0), .d (.int .i64 0), .d (.int .i64 0)]) := by kernel_rfl
@[simp] theorem tbytes_115 : tbytes Tryd.prog 115 = some 608 := by kernel_rfl
@[simp] theorem tzeroD_115 : tzeroD Tryd.prog 115 = some (.agg ([.list [], .int .i64 0, .int .i64 0, .list [], .int .i64 0, .int .i64 0, .int .i64 0, .int .i64 0, .int .i64 0, .int .i64 0, .int .i64 0, .int .i64 0, .int .i64 0, .int .i64 0, .int .i64 0, .int .i64 0, .int .i64 0, .int .i64 0, .int .i64 0, .int .i64 0, .int .i64 0, .int .i64 0, .int .i64 0, .int .i64 0, .int .i64 0, .int .i64 0, .int .i64 0, .int .i64 0, .int .i64 0, .int .i64 0, .int .i64 0, .int .i64 0, .int .i64 0, .int .i64 0, .int .i64 0, .int .i64 0, .int .i64 0, .int .i64 0, .int .i64 0, .int .i64 0, .int .i64 0, .int .i64 0, .int .i64 0, .int .i64 0, .int .i64 0, .int .i64 0, .int .i64 0, .int .i64 0, .int .i64 0, .int .i64 0, .int .i64 0, .int .i64 0, .int .i64 0, .int .i64 0, .int .i64 0, .int .i64 0, .int .i64 0, .int .i64 0, .int .i64 0, .int .i64 0, .int .i64 0, .int .i64 0, .int .i64 0, .int .i64 0, .int .i64 0, .int .i64 0, .int .i64 0, .int .i64 0, .int .i64 0, .int .i64 0, .int .i64 0, .int .i64 0])) := by kernel_rfl
@[simp] theorem foff_115_0 : foff Tryd.prog 115 0 = some 0 := by kernel_rfl
@[simp] theorem foff_115_1 : foff Tryd.prog 115 1 = some 3 := by kernel_rfl
@[simp] theorem foff_115_2 : foff Tryd.prog 115 2 = some 4 := by kernel_rfl
@[simp] theorem foff_115_3 : foff Tryd.prog 115 3 = some 68 := by kernel_rfl
@[simp] theorem foff_115_4 : foff Tryd.prog 115 4 = some 69 := by kernel_rfl
@[simp] theorem foff_115_5 : foff Tryd.prog 115 5 = some 70 := by kernel_rfl
@[simp] theorem foff_115_6 : foff Tryd.prog 115 6 = some 71 := by kernel_rfl
@[simp] theorem fplace_115 : fplace Tryd.prog 115 = some [(0, 3), (3, 1), (4, 64), (68, 1), (69, 1), (70, 1), (71, 1)] := by kernel_rfl
@[simp] theorem tk_116 : tk Tryd.prog 116 = .func := by kernel_rfl
@[simp] theorem tsz_116 : tsz Tryd.prog 116 = some 1 := by kernel_rfl
@[simp] theorem tk_117 : tk Tryd.prog 117 = .func := by kernel_rfl
@[simp] theorem tsz_117 : tsz Tryd.prog 117 = some 1 := by kernel_rfl
@[simp] theorem tk_118 : tk Tryd.prog 118 = .ptr 120 := by kernel_rfl
@[simp] theorem tsz_118 : tsz Tryd.prog 118 = some 1 := by kernel_rfl
@[simp] theorem tk_119 : tk Tryd.prog 119 = .struct := by kernel_rfl
@[simp] theorem tsz_119 : tsz Tryd.prog 119 = some 5 := by kernel_rfl
@[simp] theorem tzero_119 : tzero Tryd.prog 119 = some ([.lit (.slice none 0 0), .lit (.slice none 0 0), .d (.int .i64 0), .d (.int .i64 0), .d (.int .i64 0)]) := by kernel_rfl
@[simp] theorem tbytes_119 : tbytes Tryd.prog 119 = some 72 := by kernel_rfl
@[simp] theorem tzeroD_119 : tzeroD Tryd.prog 119 = some (.agg ([.list [], .list [], .int .i64 0, .int .i64 0, .int .i64 0])) := by kernel_rfl
@[simp] theorem foff_119_0 : foff Tryd.prog 119 0 = some 0 := by kernel_rfl
@[simp] theorem foff_119_1 : foff Tryd.prog 119 1 = some 1 := by kernel_rfl
@[simp] theorem foff_119_2 : foff Tryd.prog 119 2 = some 2 := by kernel_rfl
@[simp] theorem foff_119_3 : foff Tryd.prog 119 3 = some 3 := by kernel_rfl
@[simp] theorem foff_119_4 : foff Tryd.prog 119 4 = some 4 := by kernel_rfl
@[simp] theorem fplace_119 : fplace Tryd.prog 119 = some [(0, 1), (1, 1), (2, 1), (3, 1), (4, 1)] := by kernel_rfl
@[simp] theorem tk_120 : tk Tryd.prog 120 = .struct := by kernel_rfl
@[simp] theorem tsz_120 : tsz Tryd.prog 120 = some 5 := by kernel_rfl
@[simp] theorem tzero_120 : tzero Tryd.prog 120 = some ([.lit (.slice none 0 0), .lit (.slice none 0 0), .d (.int .i64 0), .d (.int .i64 0), .d (.int .i64 0)]) := by kernel_rfl
@[simp] theorem tbytes_120 : tbytes Tryd.prog 120 = some 72 := by kernel_rfl
@[simp] theorem tzeroD_120 : tzeroD Tryd.prog 120 = some (.agg ([.list [], .list [], .int .i64 0, .int .i64 0, .int .i64 0])) := by kernel_rfl
@[simp] theorem foff_120_0 : foff Tryd.prog 120 0 = some 0 := by kernel_rfl
@[simp] theorem foff_120_1 : foff Tryd.prog 120 1 = some 1 := by kernel_rfl
@[simp] theorem foff_120_2 : foff Tryd.prog 120 2 = some 2 := by kernel_rfl
@[simp] theorem foff_120_3 : foff Tryd.prog 120 3 = some 3 := by kernel_rfl
@[simp] theorem foff_120_4 : foff Tryd.prog 120 4 = some 4 := by kernel_rfl
@[simp] theorem fplace_120 : fplace Tryd.prog 120 = some [(0, 1), (1, 1), (2, 1), (3, 1), (4, 1)] := by kernel_rfl
@[simp] theorem tk_121 : tk Tryd.prog 121 = .func := by kernel_rfl
@[simp] theorem tsz_121 : tsz Tryd.prog 121 = some 1 := by kernel_rfl
@[simp] theorem tk_122 : tk Tryd.prog 122 = .func := by kernel_rfl
@[simp] theorem tsz_122 : tsz Tryd.prog 122 = some 1 := by kernel_rfl
@[simp] theorem tk_123 : tk Tryd.prog 123 = .func := by kernel_rfl
@[simp] theorem tsz_123 : tsz Tryd.prog 123 = some 1 := by kernel_rfl
@[simp] theorem tk_124 : tk Tryd.prog 124 = .slice 168 := by kernel_rfl
@[simp] theorem tsz_124 : tsz Tryd.prog 124 = some 1 := by kernel_rfl
@[simp] theorem tzero_124 : tzero Tryd.prog 124 = some ([.lit (.slice none 0 0)]) := by kernel_rfl
@[simp] theorem tbytes_124 : tbytes Tryd.prog 124 = some 24 := by kernel_rfl
@[simp] theorem tzeroD_124 : tzeroD Tryd.prog 124 = some (.list []) := by kernel_rfl
@[simp] theorem srcTy_124 : srcTy Tryd.prog 124 = true := by kernel_rfl
@[simp] theorem tk_125 : tk Tryd.prog 125 = .func := by kernel_rfl
@[simp] theorem tsz_125 : tsz Tryd.prog 125 = some 1 := by kernel_rfl
@[simp] theorem tk_126 : tk Tryd.prog 126 = .func := by kernel_rfl
@[simp] theorem tsz_126 : tsz Tryd.prog 126 = some 1 := by kernel_rfl
@[simp] theorem tk_127 : tk Tryd.prog 127 = .func := by kernel_rfl
@[simp] theorem tsz_127 : tsz Tryd.prog 127 = some 1 := by kernel_rfl
@[simp] theorem tk_128 : tk Tryd.prog 128 = .func := by kernel_rfl
@[simp] theorem tsz_128 : tsz Tryd.prog 128 = some 1 := by kernel_rfl
@[simp] theorem tk_129 : tk Tryd.prog 129 = .func := by kernel_rfl
@[simp] theorem tsz_129 : tsz Tryd.prog 129 = some 1 := by kernel_rfl
@[simp] theorem tk_131 : tk Tryd.prog 131 = .func := by kernel_rfl
@[simp] theorem tsz_131 : tsz Tryd.prog 131 = some 1 := by kernel_rfl
@[simp] theorem tk_132 : tk Tryd.prog 132 = .func := by kernel_rfl
@[simp] theorem tsz_132 : tsz Tryd.prog 132 = some 1 := by kernel_rfl
@[simp] theorem tk_133 : tk Tryd.prog 133 = .func := by kernel_rfl
@[simp] theorem tsz_133 : tsz Tryd.prog 133 = some 1 := by kernel_rfl
@[simp] theorem tk_135 : tk Tryd.prog 135 = .func := by kernel_rfl
@[simp] theorem tsz_135 : tsz Tryd.prog 135 = some 1 := by kernel_rfl
@[simp] theorem tk_136 : tk Tryd.prog 136 = .func := by kernel_rfl
@[simp] theorem tsz_136 : tsz Tryd.prog 136 = some 1 := by kernel_rfl
@[simp] theorem tk_137 : tk Tryd.prog 137 = .arr 256 5 := by kernel_rfl
@[simp] theorem tsz_137 : tsz Tryd.prog 137 = some 256 := by kernel_rfl
@[simp] theorem tzero_137 : tzero Tryd.prog 137 = some (List.replicate 256 (.d (.int .u8 0))) := by kernel_rfl
@[simp] theorem tbytes_137 : tbytes Tryd.prog 137 = some 256 := by kernel_rfl
@[simp] theorem tzeroD_137 : tzeroD Tryd.prog 137 = some (.agg (List.replicate 256 (.int .u8 0))) := by kernel_rfl
@[simp] theorem fplace_137 : fplace Tryd.prog 137 = none := by kernel_rfl
@[simp] theorem tk_138 : tk Tryd.prog 138 = .func := by kernel_rfl
@[simp] theorem tsz_138 : tsz Tryd.prog 138 = some 1 := by kernel_rfl
@[simp] theorem tk_139 : tk Tryd.prog 139 = .func := by kernel_rfl
@[simp] theorem tsz_139 : tsz Tryd.prog 139 = some 1 := by kernel_rfl
@[simp] theorem tk_140 : tk Tryd.prog 140 = .func := by kernel_rfl
@[simp] theorem tsz_140 : tsz Tryd.prog 140 = some 1 := by kernel_rfl
@[simp] theorem tk_141 : tk Tryd.prog 141 = .func := by kernel_rfl
@[simp] theorem tsz_141 : tsz Tryd.prog 141 = some 1 := by kernel_rfl
@[simp] theorem tk_142 : tk Tryd.prog 142 = .func := by kernel_rfl
@[simp] theorem tsz_142 : tsz Tryd.prog 142 = some 1 := by kernel_rfl
@[simp] theorem tk_143 : tk Tryd.prog 143 = .func := by kernel_rfl
@[simp] theorem tsz_143 : tsz Tryd.prog 143 = some 1 := by kernel_rfl
@[simp] theorem tk_144 : tk Tryd.prog 144 = .func := by kernel_rfl
@[simp] theorem tsz_144 : tsz Tryd.prog 144 = some 1 := by kernel_rfl
@[simp] theorem tk_145 : tk Tryd.prog 145 = .func := by kernel_rfl
@[simp] theorem tsz_145 : tsz Tryd.prog 145 = some 1 := by kernel_rfl
@[simp] theorem tk_147 : tk Tryd.prog 147 = .func := by kernel_rfl
@[simp] theorem tsz_147 : tsz Tryd.prog 147 = some 1 := by kernel_rfl
@[simp] theorem tk_148 : tk Tryd.prog 148 = .int .u64 := by kernel_rfl
@[simp] theorem tsz_148 : tsz Tryd.prog 148 = some 1 := by kernel_rfl
@[simp] theorem tzero_148 : tzero Tryd.prog 148 = some ([.d (.int .u64 0)]) := by kernel_rfl
@[simp] theorem tbytes_148 : tbytes Tryd.prog 148 = some 8 := by kernel_rfl
@[simp] theorem tzeroD_148 : tzeroD Tryd.prog 148 = some (.int .u64 0) := by kernel_rfl
@[simp] theorem tk_149 : tk Tryd.prog 149 = .func := by kernel_rfl
@[simp] theorem tsz_149 : tsz Tryd.prog 149 = some 1 := by kernel_rfl
@[simp] theorem tk_150 : tk Tryd.prog 150 = .func := by kernel_rfl
@[simp] theorem tsz_150 : tsz Tryd.prog 150 = some 1 := by kernel_rfl
@[simp] theorem tk_151 : tk Tryd.prog 151 = .func := by kernel_rfl
@[simp] theorem tsz_151 : tsz Tryd.prog 151 = some 1 := by kernel_rfl
@[simp] theorem tk_152 : tk Tryd.prog 152 = .func := by kernel_rfl
@[simp] theorem tsz_152 : tsz Tryd.prog 152 = some 1 := by kernel_rfl
@[simp] theorem tk_153 : tk Tryd.prog 153 = .func := by kernel_rfl
@[simp] theorem tsz_153 : tsz Tryd.prog 153 = some 1 := by kernel_rfl
@[simp] theorem tk_154 : tk Tryd.prog 154 = .func := by kernel_rfl
@[simp] theorem tsz_154 : tsz Tryd.prog 154 = some 1 := by kernel_rfl
@[simp] theorem tk_155 : tk Tryd.prog 155 = .func := by kernel_rfl
@[simp] theorem tsz_155 : tsz Tryd.prog 155 = some 1 := by kernel_rfl
@[simp] theorem tk_156 : tk Tryd.prog 156 = .func := by kernel_rfl
@[simp] theorem tsz_156 : tsz Tryd.prog 156 = some 1 := by kernel_rfl
@[simp] theorem tk_158 : tk Tryd.prog 158 = .func := by kernel_rfl
@[simp] theorem tsz_158 : tsz Tryd.prog 158 = some 1 := by kernel_rfl
@[simp] theorem tk_159 : tk Tryd.prog 159 = .func := by kernel_rfl
@[simp] theorem tsz_159 : tsz Tryd.prog 159 = some 1 := by kernel_rfl
@[simp] theorem tk_160 : tk Tryd.prog 160 = .func := by kernel_rfl
@[simp] theorem tsz_160 : tsz Tryd.prog 160 = some 1 := by kernel_rfl
@[simp] theorem tk_161 : tk Tryd.prog 161 = .func := by kernel_rfl
@[simp] theorem tsz_161 : tsz Tryd.prog 161 = some 1 := by kernel_rfl
@[simp] theorem tk_162 : tk Tryd.prog 162 = .func := by kernel_rfl
@[simp] theorem tsz_162 : tsz Tryd.prog 162 = some 1 := by kernel_rfl
@[simp] theorem tk_163 : tk Tryd.prog 163 = .slice 166 := by kernel_rfl
@[simp] theorem tsz_163 : tsz Tryd.prog 163 = some 1 := by kernel_rfl
@[simp] theorem tzero_163 : tzero Tryd.prog 163 = some ([.lit (.slice none 0 0)]) := by kernel_rfl
@[simp] theorem tbytes_163 : tbytes Tryd.prog 163 = some 24 := by kernel_rfl
@[simp] theorem tzeroD_163 : tzeroD Tryd.prog 163 = some (.list []) := by kernel_rfl
@[simp] theorem srcTy_163 : srcTy Tryd.prog 163 = true := by kernel_rfl
@[simp] theorem tk_164 : tk Tryd.prog 164 = .func := by kernel_rfl
@[simp] theorem tsz_164 : tsz Tryd.prog 164 = some 1 := by kernel_rfl
@[simp] theorem tk_165 : tk Tryd.prog 165 = .struct := by kernel_rfl
@[simp] theorem tsz_165 : tsz Tryd.prog 165 = some 4 := by kernel_rfl
@[simp] theorem tzero_165 : tzero Tryd.prog 165 = some ([.d (.int .i64 0), .d (.str []), .d (.str []), .lit (.slice none 0 0)]) := by kernel_rfl
@[simp] theorem tbytes_165 : tbytes Tryd.prog 165 = some 64 := by kernel_rfl
@[simp] theorem tzeroD_165 : tzeroD Tryd.prog 165 = some (.agg ([.int .i64 0, .str [], .str [], .list []])) := by kernel_rfl
@[simp] theorem foff_165_0 : foff Tryd.prog 165 0 = some 0 := by kernel_rfl
@[simp] theorem foff_165_1 : foff Tryd.prog 165 1 = some 1 := by kernel_rfl
@[simp] theorem foff_165_2 : foff Tryd.prog 165 2 = some 2 := by kernel_rfl
@[simp] theorem foff_165_3 : foff Tryd.prog 165 3 = some 3 := by kernel_rfl
@[simp] theorem fplace_165 : fplace Tryd.prog 165 = some [(0, 1), (1, 1), (2, 1), (3, 1)] := by kernel_rfl
@[simp] theorem tk_166 : tk Tryd.prog 166 = .struct := by kernel_rfl
@[simp] theorem tsz_166 : tsz Tryd.prog 166 = some 4 := by kernel_rfl
@[simp] theorem tzero_166 : tzero Tryd.prog 166 = some ([.d (.int .i64 0), .d (.str []), .d (.str []), .lit (.slice none 0 0)]) := by kernel_rfl
@[simp] theorem tbytes_166 : tbytes Tryd.prog 166 = some 64 := by kernel_rfl
@[simp] theorem tzeroD_166 : tzeroD Tryd.prog 166 = some (.agg ([.int .i64 0, .str [], .str [], .list []])) := by kernel_rfl
@[simp] theorem foff_166_0 : foff Tryd.prog 166 0 = some 0 := by kernel_rfl
@[simp] theorem foff_166_1 : foff Tryd.prog 166 1 = some 1 := by kernel_rfl
@[simp] theorem foff_166_2 : foff Tryd.prog 166 2 = some 2 := by kernel_rfl
@[simp] theorem foff_166_3 : foff Tryd.prog 166 3 = some 3 := by kernel_rfl
@[simp] theorem fplace_166 : fplace Tryd.prog 166 = some [(0, 1), (1, 1), (2, 1), (3, 1)] := by kernel_rfl
@[simp] theorem tk_167 : tk Tryd.prog 167 = .struct := by kernel_rfl
@[simp] theorem tsz_167 : tsz Tryd.prog 167 = some 3 := by kernel_rfl
@[simp] theorem tzero_167 : tzero Tryd.prog 167 = some ([.d (.str []), .d (.int .i64 0), .d (.bool false)]) := by kernel_rfl
@[simp] theorem tbytes_167 : tbytes Tryd.prog 167 = some 32 := by kernel_rfl
@[simp] theorem tzeroD_167 : tzeroD Tryd.prog 167 = some (.agg ([.str [], .int .i64 0, .bool false])) := by kernel_rfl
@[simp] theorem foff_167_0 : foff Tryd.prog 167 0 = some 0 := by kernel_rfl
@[simp] theorem foff_167_1 : foff Tryd.prog 167 1 = some 1 := by kernel_rfl
@[simp] theorem foff_167_2 : foff Tryd.prog 167 2 = some 2 := by kernel_rfl
@[simp] theorem fplace_167 : fplace Tryd.prog 167 = some [(0, 1), (1, 1), (2, 1)] := by kernel_rfl
@[simp] theorem flat_167 : flatStruct Tryd.prog 167 = some [.str, .int .i64, .bool] := by kernel_rfl
@[simp] theorem tk_168 : tk Tryd.prog 168 = .struct := by kernel_rfl
@[simp] theorem tsz_168 : tsz Tryd.prog 168 = some 3 := by kernel_rfl
@[simp] theorem tzero_168 : tzero Tryd.prog 168 = some ([.d (.str []), .d (.int .i64 0), .d (.bool false)]) := by kernel_rfl
@[simp] theorem tbytes_168 : tbytes Tryd.prog 168 = some 32 := by kernel_rfl
@[simp] theorem tzeroD_168 : tzeroD Tryd.prog 168 = some (.agg ([.str [], .int .i64 0, .bool false])) := by kernel_rfl
@[simp] theorem foff_168_0 : foff Tryd.prog 168 0 = some 0 := by kernel_rfl
@[simp] theorem foff_168_1 : foff Tryd.prog 168 1 = some 1 := by kernel_rfl
@[simp] theorem foff_168_2 : foff Tryd.prog 168 2 = some 2 := by kernel_rfl
@[simp] theorem fplace_168 : fplace Tryd.prog 168 = some [(0, 1), (1, 1), (2, 1)] := by kernel_rfl
@[simp] theorem flat_168 : flatStruct Tryd.prog 168 = some [.str, .int .i64, .bool] := by kernel_rfl
@[simp] theorem tk_169 : tk Tryd.prog 169 = .struct := by kernel_rfl
@[simp] theorem tsz_169 : tsz Tryd.prog 169 = some 2 := by kernel_rfl
@[simp] theorem tzero_169 : tzero Tryd.prog 169 = some ([.d (.str []), .d (.int .i64 0)]) := by kernel_rfl
@[simp] theorem tbytes_169 : tbytes Tryd.prog 169 = some 24 := by kernel_rfl
@[simp] theorem tzeroD_169 : tzeroD Tryd.prog 169 = some (.agg ([.str [], .int .i64 0])) := by kernel_rfl
@[simp] theorem foff_169_0 : foff Tryd.prog 169 0 = some 0 := by kernel_rfl
@[simp] theorem foff_169_1 : foff Tryd.prog 169 1 = some 1 := by kernel_rfl
@[simp] theorem fplace_169 : fplace Tryd.prog 169 = some [(0, 1), (1, 1)] := by kernel_rfl
@[simp] theorem flat_169 : flatStruct Tryd.prog 169 = some [.str, .int .i64] := by kernel_rfl
@[simp] theorem tk_170 : tk Tryd.prog 170 = .slice 169 := by kernel_rfl
@[simp] theorem tsz_170 : tsz Tryd.prog 170 = some 1 := by kernel_rfl
@[simp] theorem tzero_170 : tzero Tryd.prog 170 = some ([.lit (.slice none 0 0)]) := by kernel_rfl
@[simp] theorem tbytes_170 : tbytes Tryd.prog 170 = some 24 := by kernel_rfl
@[simp] theorem tzeroD_170 : tzeroD Tryd.prog 170 = some (.list []) := by kernel_rfl
@[simp] theorem srcTy_170 : srcTy Tryd.prog 170 = true := by kernel_rfl
@[simp] theorem tk_171 : tk Tryd.prog 171 = .func := by kernel_rfl
@[simp] theorem tsz_171 : tsz Tryd.prog 171 = some 1 := by kernel_rfl
@[simp] theorem tk_172 : tk Tryd.prog 172 = .slice 174 := by kernel_rfl
@[simp] theorem tsz_172 : tsz Tryd.prog 172 = some 1 := by kernel_rfl
@[simp] theorem tzero_172 : tzero Tryd.prog 172 = some ([.lit (.slice none 0 0)]) := by kernel_rfl
@[simp] theorem tbytes_172 : tbytes Tryd.prog 172 = some 24 := by kernel_rfl
@[simp] theorem tzeroD_172 : tzeroD Tryd.prog 172 = some (.list []) := by kernel_rfl
@[simp] theorem srcTy_172 : srcTy Tryd.prog 172 = true := by kernel_rfl
@[simp] theorem tk_173 : tk Tryd.prog 173 = .struct := by kernel_rfl
@[simp] theorem tsz_173 : tsz Tryd.prog 173 = some 2 := by kernel_rfl
@[simp] theorem tzero_173 : tzero Tryd.prog 173 = some ([.d (.int .i64 0), .d (.int .i64 0)]) := by kernel_rfl
@[simp] theorem tbytes_173 : tbytes Tryd.prog 173 = some 16 := by kernel_rfl
@[simp] theorem tzeroD_173 : tzeroD Tryd.prog 173 = some (.agg ([.int .i64 0, .int .i64 0])) := by kernel_rfl
@[simp] theorem foff_173_0 : foff Tryd.prog 173 0 = some 0 := by kernel_rfl
@[simp] theorem foff_173_1 : foff Tryd.prog 173 1 = some 1 := by kernel_rfl
@[simp] theorem fplace_173 : fplace Tryd.prog 173 = some [(0, 1), (1, 1)] := by kernel_rfl
@[simp] theorem flat_173 : flatStruct Tryd.prog 173 = some [.int .i64, .int .i64] := by kernel_rfl
@[simp] theorem tk_174 : tk Tryd.prog 174 = .struct := by kernel_rfl
@[simp] theorem tsz_174 : tsz Tryd.prog 174 = some 2 := by kernel_rfl
@[simp] theorem tzero_174 : tzero Tryd.prog 174 = some ([.d (.int .i64 0), .d (.int .i64 0)]) := by kernel_rfl
@[simp] theorem tbytes_174 : tbytes Tryd.prog 174 = some 16 := by kernel_rfl
@[simp] theorem tzeroD_174 : tzeroD Tryd.prog 174 = some (.agg ([.int .i64 0, .int .i64 0])) := by kernel_rfl
@[simp] theorem foff_174_0 : foff Tryd.prog 174 0 = some 0 := by kernel_rfl
@[simp] theorem foff_174_1 : foff Tryd.prog 174 1 = some 1 := by kernel_rfl
@[simp] theorem fplace_174 : fplace Tryd.prog 174 = some [(0, 1), (1, 1)] := by kernel_rfl
@[simp] theorem flat_174 : flatStruct Tryd.prog 174 = some [.int .i64, .int .i64] := by kernel_rfl
@[simp] theorem tk_175 : tk Tryd.prog 175 = .int .u32 := by kernel_rfl
@[simp] theorem tsz_175 : tsz Tryd.prog 175 = some 1 := by kernel_rfl
@[simp] theorem tzero_175 : tzero Tryd.prog 175 = some ([.d (.int .u32 0)]) := by kernel_rfl
@[simp] theorem tbytes_175 : tbytes Tryd.prog 175 = some 4 := by kernel_rfl
@[simp] theorem tzeroD_175 : tzeroD Tryd.prog 175 = some (.int .u32 0) := by kernel_rfl
@[simp] theorem tk_176 : tk Tryd.prog 176 = .func := by kernel_rfl
@[simp] theorem tsz_176 : tsz Tryd.prog 176 = some 1 := by kernel_rfl
@[simp] theorem tk_177 : tk Tryd.prog 177 = .ptr 196 := by kernel_rfl
@[simp] theorem tsz_177 : tsz Tryd.prog 177 = some 1 := by kernel_rfl
@[simp] theorem tk_178 : tk Tryd.prog 178 = .func := by kernel_rfl
@[simp] theorem tsz_178 : tsz Tryd.prog 178 = some 1 := by kernel_rfl
@[simp] theorem tk_179 : tk Tryd.prog 179 = .arr 16 4 := by kernel_rfl
@[simp] theorem tsz_179 : tsz Tryd.prog 179 = some 16 := by kernel_rfl
@[simp] theorem tzero_179 : tzero Tryd.prog 179 = some ([.d (.bool false), .d (.bool false), .d (.bool false), .d (.bool false), .d (.bool false), .d (.bool false), .d (.bool false), .d (.bool false), .d (.bool false), .d (.bool false), .d (.bool false), .d (.bool false), .d (.bool false), .d (.bool false), .d (.bool false), .d (.bool false)]) := by kernel_rfl
@[simp] theorem tbytes_179 : tbytes Tryd.prog 179 = some 16 := by kernel_rfl
@[simp] theorem tzeroD_179 : tzeroD Tryd.prog 179 = some (.agg ([.bool false, .bool false, .bool false, .bool false, .bool false, .bool false, .bool false, .bool false, .bool false, .bool false, .bool false, .bool false, .bool false, .bool false, .bool false, .bool false])) := by kernel_rfl
@[simp] theorem fplace_179 : fplace Tryd.prog 179 = none := by kernel_rfl
@[simp] theorem tk_180 : tk Tryd.prog 180 = .struct := by kernel_rfl
@[simp] theorem tsz_180 : tsz Tryd.prog 180 = some 5 := by kernel_rfl
@[simp] theorem tzero_180 : tzero Tryd.prog 180 = some ([.d (.int .i64 0), .d (.str []), .d (.str []), .d (.str []), .d (.int .i64 0)]) := by kernel_rfl
@[simp] theorem tbytes_180 : tbytes Tryd.prog 180 = some 64 := by kernel_rfl
@[simp] theorem tzeroD_180 : tzeroD Tryd.prog 180 = some (.agg ([.int .i64 0, .str [], .str [], .str [], .int .i64 0])) := by kernel_rfl
@[simp] theorem foff_180_0 : foff Tryd.prog 180 0 = some 0 := by kernel_rfl
@[simp] theorem foff_180_1 : foff Tryd.prog 180 1 = some 1 := by kernel_rfl
@[simp] theorem foff_180_2 : foff Tryd.prog 180 2 = some 2 := by kernel_rfl
@[simp] theorem foff_180_3 : foff Tryd.prog 180 3 = some 3 := by kernel_rfl
@[simp] theorem foff_180_4 : foff Tryd.prog 180 4 = some 4 := by kernel_rfl
@[simp] theorem fplace_180 : fplace Tryd.prog 180 = some [(0, 1), (1, 1), (2, 1), (3, 1), (4, 1)] := by kernel_rfl
@[simp] theorem flat_180 : flatStruct Tryd.prog 180 = some [.int .i64, .str, .str, .str, .int .i64] := by kernel_rfl
@[simp] theorem tk_181 : tk Tryd.prog 181 = .struct := by kernel_rfl
@[simp] theorem tsz_181 : tsz Tryd.prog 181 = some 5 := by kernel_rfl
@[simp] theorem tzero_181 : tzero Tryd.prog 181 = some ([.d (.int .i64 0), .d (.str []), .d (.str []), .d (.str []), .d (.int .i64 0)]) := by kernel_rfl
@[simp] theorem tbytes_181 : tbytes Tryd.prog 181 = some 64 := by kernel_rfl
@[simp] theorem tzeroD_181 : tzeroD Tryd.prog 181 = some (.agg ([.int .i64 0, .str [], .str [], .str [], .int .i64 0])) := by kernel_rfl
@[simp] theorem foff_181_0 : foff Tryd.prog 181 0 = some 0 := by kernel_rfl
@[simp] theorem foff_181_1 : foff Tryd.prog 181 1 = some 1 := by kernel_rfl
@[simp] theorem foff_181_2 : foff Tryd.prog 181 2 = some 2 := by kernel_rfl
@[simp] theorem foff_181_3 : foff Tryd.prog 181 3 = some 3 := by kernel_rfl
@[simp] theorem foff_181_4 : foff Tryd.prog 181 4 = some 4 := by kernel_rfl
@[simp] theorem fplace_181 : fplace Tryd.prog 181 = some [(0, 1), (1, 1), (2, 1), (3, 1), (4, 1)] := by kernel_rfl
@[simp] theorem flat_181 : flatStruct Tryd.prog 181 = some [.int .i64, .str, .str, .str, .int .i64] := by kernel_rfl
@[simp] theorem tk_183 : tk Tryd.prog 183 = .func := by kernel_rfl
@[simp] theorem tsz_183 : tsz Tryd.prog 183 = some 1 := by kernel_rfl
@[simp] theorem tk_184 : tk Tryd.prog 184 = .func := by kernel_rfl
@[simp] theorem tsz_184 : tsz Tryd.prog 184 = some 1 := by kernel_rfl
@[simp] theorem tk_185 : tk Tryd.prog 185 = .func := by kernel_rfl
@[simp] theorem tsz_185 : tsz Tryd.prog 185 = some 1 := by kernel_rfl
@[simp] theorem tk_187 : tk Tryd.prog 187 = .func := by kernel_rfl
@[simp] theorem tsz_187 : tsz Tryd.prog 187 = some 1 := by kernel_rfl
@[simp] theorem tk_188 : tk Tryd.prog 188 = .arr 6 4 := by kernel_rfl
@[simp] theorem tsz_188 : tsz Tryd.prog 188 = some 6 := by kernel_rfl
@[simp] theorem tzero_188 : tzero Tryd.prog 188 = some ([.d (.bool false), .d (.bool false), .d (.bool false), .d (.bool false), .d (.bool false), .d (.bool false)]) := by kernel_rfl
@[simp] theorem tbytes_188 : tbytes Tryd.prog 188 = some 6 := by kernel_rfl
@[simp] theorem tzeroD_188 : tzeroD Tryd.prog 188 = some (.agg ([.bool false, .bool false, .bool false, .bool false, .bool false, .bool false])) := by kernel_rfl
@[simp] theorem fplace_188 : fplace Tryd.prog 188 = none := by kernel_rfl
@[simp] theorem tk_190 : tk Tryd.prog 190 = .func := by kernel_rfl
@[simp] theorem tsz_190 : tsz Tryd.prog 190 = some 1 := by kernel_rfl
@[simp] theorem tk_191 : tk Tryd.prog 191 = .func := by kernel_rfl
@[simp] theorem tsz_191 : tsz Tryd.prog 191 = some 1 := by kernel_rfl
@[simp] theorem tk_192 : tk Tryd.prog 192 = .func := by kernel_rfl
@[simp] theorem tsz_192 : tsz Tryd.prog 192 = some 1 := by kernel_rfl
@[simp] theorem tk_193 : tk Tryd.prog 193 = .slice 198 := by kernel_rfl
@[simp] theorem tsz_193 : tsz Tryd.prog 193 = some 1 := by kernel_rfl
@[simp] theorem tzero_193 : tzero Tryd.prog 193 = some ([.lit (.slice none 0 0)]) := by kernel_rfl
@[simp] theorem tbytes_193 : tbytes Tryd.prog 193 = some 24 := by kernel_rfl
@[simp] theorem tzeroD_193 : tzeroD Tryd.prog 193 = some (.list []) := by kernel_rfl
@[simp] theorem srcTy_193 : srcTy Tryd.prog 193 = true := by kernel_rfl
@[simp] theorem tk_194 : tk Tryd.prog 194 = .slice 201 := by kernel_rfl
@[simp] theorem tsz_194 : tsz Tryd.prog 194 = some 1 := by kernel_rfl
@[simp] theorem tzero_194 : tzero Tryd.prog 194 = some ([.lit (.slice none 0 0)]) := by kernel_rfl
@[simp] theorem tbytes_194 : tbytes Tryd.prog 194 = some 24 := by kernel_rfl
@[simp] theorem tzeroD_194 : tzeroD Tryd.prog 194 = some (.list []) := by kernel_rfl
@[simp] theorem srcTy_194 : srcTy Tryd.prog 194 = true := by kernel_rfl
@[simp] theorem tk_195 : tk Tryd.prog 195 = .struct := by kernel_rfl
@[simp] theorem tsz_195 : tsz Tryd.prog 195 = some 3 := by kernel_rfl
@[simp] theorem tzero_195 : tzero Tryd.prog 195 = some ([.lit (.slice none 0 0), .lit (.slice none 0 0), .d (.int .i64 0)]) := by kernel_rfl
@[simp] theorem tbytes_195 : tbytes Tryd.prog 195 = some 56 := by kernel_rfl
@[simp] theorem tzeroD_195 : tzeroD Tryd.prog 195 = some (.agg ([.list [], .list [], .int .i64 0])) := by kernel_rfl
@[simp] theorem foff_195_0 : foff Tryd.prog 195 0 = some 0 := by kernel_rfl
@[simp] theorem foff_195_1 : foff Tryd.prog 195 1 = some 1 := by kernel_rfl
@[simp] theorem foff_195_2 : foff Tryd.prog 195 2 = some 2 := by kernel_rfl
@[simp] theorem fplace_195 : fplace Tryd.prog 195 = some [(0, 1), (1, 1), (2, 1)] := by kernel_rfl
@[simp] theorem tk_196 : tk Tryd.prog 196 = .struct := by kernel_rfl
@[simp] theorem tsz_196 : tsz Tryd.prog 196 = some 3 := by kernel_rfl
@[simp] theorem tzero_196 : tzero Tryd.prog 196 = some ([.lit (.slice none 0 0), .lit (.slice none 0 0), .d (.int .i64 0)]) := by kernel_rfl
@[simp] theorem tbytes_196 : tbytes Tryd.prog 196 = some 56 := by kernel_rfl
@[simp] theorem tzeroD_196 : tzeroD Tryd.prog 196 = some (.agg ([.list [], .list [], .int .i64 0])) := by kernel_rfl
@[simp] theorem foff_196_0 : foff Tryd.prog 196 0 = some 0 := by kernel_rfl
@[simp] theorem foff_196_1 : foff Tryd.prog 196 1 = some 1 := by kernel_rfl
@[simp] theorem foff_196_2 : foff Tryd.prog 196 2 = some 2 := by kernel_rfl
@[simp] theorem fplace_196 : fplace Tryd.prog 196 = some [(0, 1), (1, 1), (2, 1)] := by kernel_rfl
@[simp] theorem tk_197 : tk Tryd.prog 197 = .struct := by kernel_rfl
@[simp] theorem tsz_197 : tsz Tryd.prog 197 = some 3 := by kernel_rfl
@[simp] theorem tzero_197 : tzero Tryd.prog 197 = some ([.d (.int .u16 0), .d (.int .u16 0), .d (.int .u16 0)]) := by kernel_rfl
@[simp] theorem tbytes_197 : tbytes Tryd.prog 197 = some 6 := by kernel_rfl
@[simp] theorem tzeroD_197 : tzeroD Tryd.prog 197 = some (.agg ([.int .u16 0, .int .u16 0, .int .u16 0])) := by kernel_rfl
@[simp] theorem foff_197_0 : foff Tryd.prog 197 0 = some 0 := by kernel_rfl
@[simp] theorem foff_197_1 : foff Tryd.prog 197 1 = some 1 := by kernel_rfl
@[simp] theorem foff_197_2 : foff Tryd.prog 197 2 = some 2 := by kernel_rfl
@[simp] theorem fplace_197 : fplace Tryd.prog 197 = some [(0, 1), (1, 1), (2, 1)] := by kernel_rfl
@[simp] theorem flat_197 : flatStruct Tryd.prog 197 = some [.int .u16, .int .u16, .int .u16] := by kernel_rfl
@[simp] theorem tk_198 : tk Tryd.prog 198 = .struct := by kernel_rfl
@[simp] theorem tsz_198 : tsz Tryd.prog 198 = some 3 := by kernel_rfl
@[simp] theorem tzero_198 : tzero Tryd.prog 198 = some ([.d (.int .u16 0), .d (.int .u16 0), .d (.int .u16 0)]) := by kernel_rfl
@[simp] theorem tbytes_198 : tbytes Tryd.prog 198 = some 6 := by kernel_rfl
@[simp] theorem tzeroD_198 : tzeroD Tryd.prog 198 = some (.agg ([.int .u16 0, .int .u16 0, .int .u16 0])) := by kernel_rfl
@[simp] theorem foff_198_0 : foff Tryd.prog 198 0 = some 0 := by kernel_rfl
@[simp] theorem foff_198_1 : foff Tryd.prog 198 1 = some 1 := by kernel_rfl
@[simp] theorem foff_198_2 : foff Tryd.prog 198 2 = some 2 := by kernel_rfl
@[simp] theorem fplace_198 : fplace Tryd.prog 198 = some [(0, 1), (1, 1), (2, 1)] := by kernel_rfl
@[simp] theorem flat_198 : flatStruct Tryd.prog 198 = some [.int .u16, .int .u16, .int .u16] := by kernel_rfl
@[simp] theorem tk_199 : tk Tryd.prog 199 = .func := by kernel_rfl
@[simp] theorem tsz_199 : tsz Tryd.prog 199 = some 1 := by kernel_rfl
@[simp] theorem tk_200 : tk Tryd.prog 200 = .struct := by kernel_rfl
@[simp] theorem tsz_200 : tsz Tryd.prog 200 = some 3 := by kernel_rfl
@[simp] theorem tzero_200 : tzero Tryd.prog 200 = some ([.d (.int .u32 0), .d (.int .u32 0), .d (.int .u32 0)]) := by kernel_rfl
@[simp] theorem tbytes_200 : tbytes Tryd.prog 200 = some 12 := by kernel_rfl
@[simp] theorem tzeroD_200 : tzeroD Tryd.prog 200 = some (.agg ([.int .u32 0, .int .u32 0, .int .u32 0])) := by kernel_rfl
@[simp] theorem foff_200_0 : foff Tryd.prog 200 0 = some 0 := by kernel_rfl
@[simp] theorem foff_200_1 : foff Tryd.prog 200 1 = some 1 := by kernel_rfl
@[simp] theorem foff_200_2 : foff Tryd.prog 200 2 = some 2 := by kernel_rfl
@[simp] theorem fplace_200 : fplace Tryd.prog 200 = some [(0, 1), (1, 1), (2, 1)] := by kernel_rfl
@[simp] theorem flat_200 : flatStruct Tryd.prog 200 = some [.int .u32, .int .u32, .int .u32] := by kernel_rfl
@[simp] theorem tk_201 : tk Tryd.prog 201 = .struct := by kernel_rfl
@[simp] theorem tsz_201 : tsz Tryd.prog 201 = some 3 := by kernel_rfl
@[simp] theorem tzero_201 : tzero Tryd.prog 201 = some ([.d (.int .u32 0), .d (.int .u32 0), .d (.int .u32 0)]) := by kernel_rfl
@[simp] theorem tbytes_201 : tbytes Tryd.prog 201 = some 12 := by kernel_rfl
@[simp] theorem tzeroD_201 : tzeroD Tryd.prog 201 = some (.agg ([.int .u32 0, .int .u32 0, .int .u32 0])) := by kernel_rfl
@[simp] theorem foff_201_0 : foff Tryd.prog 201 0 = some 0 := by kernel_rfl
@[simp] theorem foff_201_1 : foff Tryd.prog 201 1 = some 1 := by kernel_rfl
@[simp] theorem foff_201_2 : foff Tryd.prog 201 2 = some 2 := by kernel_rfl
@[simp] theorem fplace_201 : fplace Tryd.prog 201 = some [(0, 1), (1, 1), (2, 1)] := by kernel_rfl
@[simp] theorem flat_201 : flatStruct Tryd.prog 201 = some [.int .u32, .int .u32, .int .u32] := by kernel_rfl
@[simp] theorem tk_202 : tk Tryd.prog 202 = .func := by kernel_rfl
@[simp] theorem tsz_202 : tsz Tryd.prog 202 = some 1 := by kernel_rfl
@[simp] theorem tk_203 : tk Tryd.prog 203 = .func := by kernel_rfl
@[simp] theorem tsz_203 : tsz Tryd.prog 203 = some 1 := by kernel_rfl
@[simp] theorem tk_204 : tk Tryd.prog 204 = .func := by kernel_rfl
@[simp] theorem tsz_204 : tsz Tryd.prog 204 = some 1 := by kernel_rfl
@[simp] theorem tk_205 : tk Tryd.prog 205 = .slice 181 := by kernel_rfl
@[simp] theorem tsz_205 : tsz Tryd.prog 205 = some 1 := by kernel_rfl
@[simp] theorem tzero_205 : tzero Tryd.prog 205 = some ([.lit (.slice none 0 0)]) := by kernel_rfl
@[simp] theorem tbytes_205 : tbytes Tryd.prog 205 = some 24 := by kernel_rfl
@[simp] theorem tzeroD_205 : tzeroD Tryd.prog 205 = some (.list []) := by kernel_rfl
@[simp] theorem srcTy_205 : srcTy Tryd.prog 205 = true := by kernel_rfl
@[simp] theorem tk_206 : tk Tryd.prog 206 = .func := by kernel_rfl
@[simp] theorem tsz_206 : tsz Tryd.prog 206 = some 1 := by kernel_rfl
@[simp] theorem tk_207 : tk Tryd.prog 207 = .func := by kernel_rfl
@[simp] theorem tsz_207 : tsz Tryd.prog 207 = some 1 := by kernel_rfl
@[simp] theorem tk_208 : tk Tryd.prog 208 = .func := by kernel_rfl
@[simp] theorem tsz_208 : tsz Tryd.prog 208 = some 1 := by kernel_rfl
@[simp] theorem tk_210 : tk Tryd.prog 210 = .func := by kernel_rfl
@[simp] theorem tsz_210 : tsz Tryd.prog 210 = some 1 := by kernel_rfl
@[simp] theorem tk_211 : tk Tryd.prog 211 = .func := by kernel_rfl
@[simp] theorem tsz_211 : tsz Tryd.prog 211 = some 1 := by kernel_rfl
@[simp] theorem tk_212 : tk Tryd.prog 212 = .struct := by kernel_rfl
@[simp] theorem tsz_212 : tsz Tryd.prog 212 = some 5 := by kernel_rfl
@[simp] theorem tzero_212 : tzero Tryd.prog 212 = some ([.d (.int .u64 0), .d (.int .u64 0), .d (.int .u64 0), .d (.int .u64 0), .d (.bool false)]) := by kernel_rfl
@[simp] theorem tbytes_212 : tbytes Tryd.prog 212 = some 40 := by kernel_rfl
@[simp] theorem tzeroD_212 : tzeroD Tryd.prog 212 = some (.agg ([.int .u64 0, .int .u64 0, .int .u64 0, .int .u64 0, .bool false])) := by kernel_rfl
@[simp] theorem foff_212_0 : foff Tryd.prog 212 0 = some 0 := by kernel_rfl
@[simp] theorem foff_212_1 : foff Tryd.prog 212 1 = some 4 := by kernel_rfl
@[simp] theorem fplace_212 : fplace Tryd.prog 212 = some [(0, 4), (4, 1)] := by kernel_rfl
@[simp] theorem tk_213 : tk Tryd.prog 213 = .struct := by kernel_rfl
@[simp] theorem tsz_213 : tsz Tryd.prog 213 = some 5 := by kernel_rfl
@[simp] theorem tzero_213 : tzero Tryd.prog 213 = some ([.d (.int .u64 0), .d (.int .u64 0), .d (.int .u64 0), .d (.int .u64 0), .d (.bool false)]) := by kernel_rfl
@[simp] theorem tbytes_213 : tbytes Tryd.prog 213 = some 40 := by kernel_rfl
@[simp] theorem tzeroD_213 : tzeroD Tryd.prog 213 = some (.agg ([.int .u64 0, .int .u64 0, .int .u64 0, .int .u64 0, .bool false])) := by kernel_rfl
@[simp] theorem foff_213_0 : foff Tryd.prog 213 0 = some 0 := by kernel_rfl
@[simp] theorem foff_213_1 : foff Tryd.prog 213 1 = some 4 := by kernel_rfl
@[simp] theorem fplace_213 : fplace Tryd.prog 213 = some [(0, 4), (4, 1)] := by kernel_rfl
@[simp] theorem tk_214 : tk Tryd.prog 214 = .func := by kernel_rfl
@[simp] theorem tsz_214 : tsz Tryd.prog 214 = some 1 := by kernel_rfl
@[simp] theorem tk_215 : tk Tryd.prog 215 = .func := by kernel_rfl
@[simp] theorem tsz_215 : tsz Tryd.prog 215 = some 1 := by kernel_rfl
@[simp] theorem tk_216 : tk Tryd.prog 216 = .func := by kernel_rfl
@[simp] theorem tsz_216 : tsz Tryd.prog 216 = some 1 := by kernel_rfl
@[simp] theorem tk_218 : tk Tryd.prog 218 = .func := by kernel_rfl
@[simp] theorem tsz_218 : tsz Tryd.prog 218 = some 1 := by kernel_rfl
@[simp] theorem tk_220 : tk Tryd.prog 220 = .func := by kernel_rfl
@[simp] theorem tsz_220 : tsz Tryd.prog 220 = some 1 := by kernel_rfl
@[simp] theorem tk_221 : tk Tryd.prog 221 = .ptr 198 := by kernel_rfl
@[simp] theorem tsz_221 : tsz Tryd.prog 221 = some 1 := by kernel_rfl
@[simp] theorem tk_222 : tk Tryd.prog 222 = .ptr 201 := by kernel_rfl
@[simp] theorem tsz_222 : tsz Tryd.prog 222 = some 1 := by kernel_rfl
@[simp] theorem tk_224 : tk Tryd.prog 224 = .func := by kernel_rfl
@[simp] theorem tsz_224 : tsz Tryd.prog 224 = some 1 := by kernel_rfl
@[simp] theorem tk_225 : tk Tryd.prog 225 = .func := by kernel_rfl
@[simp] theorem tsz_225 : tsz Tryd.prog 225 = some 1 := by kernel_rfl
@[simp] theorem tk_227 : tk Tryd.prog 227 = .func := by kernel_rfl
@[simp] theorem tsz_227 : tsz Tryd.prog 227 = some 1 := by kernel_rfl
@[simp] theorem tk_228 : tk Tryd.prog 228 = .func := by kernel_rfl
@[simp] theorem tsz_228 : tsz Tryd.prog 228 = some 1 := by kernel_rfl
@[simp] theorem tk_229 : tk Tryd.prog 229 = .func := by kernel_rfl
@[simp] theorem tsz_229 : tsz Tryd.prog 229 = some 1 := by kernel_rfl
@[simp] theorem tk_230 : tk Tryd.prog 230 = .struct := by kernel_rfl
@[simp] theorem tsz_230 : tsz Tryd.prog 230 = some 4 := by kernel_rfl
@[simp] theorem tzero_230 : tzero Tryd.prog 230 = some ([.lit (.pointer none), .lit (.pointer none), .lit (.pointer none), .d (.str [])]) := by kernel_rfl
@[simp] theorem foff_230_0 : foff Tryd.prog 230 0 = some 0 := by kernel_rfl
@[simp] theorem foff_230_1 : foff Tryd.prog 230 1 = some 1 := by kernel_rfl
@[simp] theorem foff_230_2 : foff Tryd.prog 230 2 = some 2 := by kernel_rfl
@[simp] theorem foff_230_3 : foff Tryd.prog 230 3 = some 3 := by kernel_rfl
@[simp] theorem fplace_230 : fplace Tryd.prog 230 = some [(0, 1), (1, 1), (2, 1), (3, 1)] := by kernel_rfl
@[simp] theorem tk_231 : tk Tryd.prog 231 = .struct := by kernel_rfl
@[simp] theorem tsz_231 : tsz Tryd.prog 231 = some 4 := by kernel_rfl
@[simp] theorem tzero_231 : tzero Tryd.prog 231 = some ([.lit (.pointer none), .lit (.pointer none), .lit (.pointer none), .d (.str [])]) := by kernel_rfl
@[simp] theorem foff_231_0 : foff Tryd.prog 231 0 = some 0 := by kernel_rfl
@[simp] theorem foff_231_1 : foff Tryd.prog 231 1 = some 1 := by kernel_rfl
@[simp] theorem foff_231_2 : foff Tryd.prog 231 2 = some 2 := by kernel_rfl
@[simp] theorem foff_231_3 : foff Tryd.prog 231 3 = some 3 := by kernel_rfl
@[simp] theorem fplace_231 : fplace Tryd.prog 231 = some [(0, 1), (1, 1), (2, 1), (3, 1)] := by kernel_rfl
@[simp] theorem tk_232 : tk Tryd.prog 232 = .arr 0 16 := by kernel_rfl
@[simp] theorem tsz_232 : tsz Tryd.prog 232 = some 0 := by kernel_rfl
@[simp] theorem tzero_232 : tzero Tryd.prog 232 = some ([]) := by kernel_rfl
@[simp] theorem tbytes_232 : tbytes Tryd.prog 232 = some 0 := by kernel_rfl
@[simp] theorem tzeroD_232 : tzeroD Tryd.prog 232 = some (.agg ([])) := by kernel_rfl
@[simp] theorem fplace_232 : fplace Tryd.prog 232 = none := by kernel_rfl
@[simp] theorem tk_233 : tk Tryd.prog 233 = .struct := by kernel_rfl
@[simp] theorem tsz_233 : tsz Tryd.prog 233 = some 0 := by kernel_rfl
@[simp] theorem tzero_233 : tzero Tryd.prog 233 = some ([]) := by kernel_rfl
@[simp] theorem tbytes_233 : tbytes Tryd.prog 233 = some 0 := by kernel_rfl
@[simp] theorem tzeroD_233 : tzeroD Tryd.prog 233 = some (.agg ([])) := by kernel_rfl
@[simp] theorem fplace_233 : fplace Tryd.prog 233 = some [(0, 0)] := by kernel_rfl
@[simp] theorem tk_234 : tk Tryd.prog 234 = .struct := by kernel_rfl
@[simp] theorem tsz_234 : tsz Tryd.prog 234 = some 0 := by kernel_rfl
@[simp] theorem tzero_234 : tzero Tryd.prog 234 = some ([]) := by kernel_rfl
@[simp] theorem tbytes_234 : tbytes Tryd.prog 234 = some 0 := by kernel_rfl
@[simp] theorem tzeroD_234 : tzeroD Tryd.prog 234 = some (.agg ([])) := by kernel_rfl
@[simp] theorem fplace_234 : fplace Tryd.prog 234 = some [(0, 0)] := by kernel_rfl
@[simp] theorem tk_235 : tk Tryd.prog 235 = .func := by kernel_rfl
@[simp] theorem tsz_235 : tsz Tryd.prog 235 = some 1 := by kernel_rfl
@[simp] theorem tk_236 : tk Tryd.prog 236 = .int .u8 := by kernel_rfl
@[simp] theorem tsz_236 : tsz Tryd.prog 236 = some 1 := by kernel_rfl
@[simp] theorem tzero_236 : tzero Tryd.prog 236 = some ([.d (.int .u8 0)]) := by kernel_rfl
@[simp] theorem tbytes_236 : tbytes Tryd.prog 236 = some 1 := by kernel_rfl
@[simp] theorem tzeroD_236 : tzeroD Tryd.prog 236 = some (.int .u8 0) := by kernel_rfl
@[simp] theorem tk_237 : tk Tryd.prog 237 = .int .u8 := by kernel_rfl
@[simp] theorem tsz_237 : tsz Tryd.prog 237 = some 1 := by kernel_rfl
@[simp] theorem tzero_237 : tzero Tryd.prog 237 = some ([.d (.int .u8 0)]) := by kernel_rfl
@[simp] theorem tbytes_237 : tbytes Tryd.prog 237 = some 1 := by kernel_rfl
@[simp] theorem tzeroD_237 : tzeroD Tryd.prog 237 = some (.int .u8 0) := by kernel_rfl
@[simp] theorem tk_238 : tk Tryd.prog 238 = .func := by kernel_rfl
@[simp] theorem tsz_238 : tsz Tryd.prog 238 = some 1 := by kernel_rfl
@[simp] theorem tk_239 : tk Tryd.prog 239 = .ptr 5 := by kernel_rfl
@[simp] theorem tsz_239 : tsz Tryd.prog 239 = some 1 := by kernel_rfl
@[simp] theorem tk_240 : tk Tryd.prog 240 = .int .i32 := by kernel_rfl
@[simp] theorem tsz_240 : tsz Tryd.prog 240 = some 1 := by kernel_rfl
@[simp] theorem tzero_240 : tzero Tryd.prog 240 = some ([.d (.int .i32 0)]) := by kernel_rfl
@[simp] theorem tbytes_240 : tbytes Tryd.prog 240 = some 4 := by kernel_rfl
@[simp] theorem tzeroD_240 : tzeroD Tryd.prog 240 = some (.int .i32 0) := by kernel_rfl
@[simp] theorem tk_241 : tk Tryd.prog 241 = .int .i32 := by kernel_rfl
@[simp] theorem tsz_241 : tsz Tryd.prog 241 = some 1 := by kernel_rfl
@[simp] theorem tzero_241 : tzero Tryd.prog 241 = some ([.d (.int .i32 0)]) := by kernel_rfl
@[simp] theorem tbytes_241 : tbytes Tryd.prog 241 = some 4 := by kernel_rfl
@[simp] theorem tzeroD_241 : tzeroD Tryd.prog 241 = some (.int .i32 0) := by kernel_rfl
@[simp] theorem tk_242 : tk Tryd.prog 242 = .struct := by kernel_rfl
@[simp] theorem tsz_242 : tsz Tryd.prog 242 = some 11 := by kernel_rfl
@[simp] theorem tzero_242 : tzero Tryd.prog 242 = some ([.d (.int .u64 0), .d (.int .u64 0), .d (.int .u32 0), .d (.int .u8 0), .d (.int .u8 0), .d (.int .u8 0), .d (.int .u8 0), .lit .nilFunc, .lit (.pointer none), .d (.int .i32 0), .d (.int .i32 0)]) := by kernel_rfl
@[simp] theorem foff_242_0 : foff Tryd.prog 242 0 = some 0 := by kernel_rfl
@[simp] theorem foff_242_1 : foff Tryd.prog 242 1 = some 1 := by kernel_rfl
@[simp] theorem foff_242_2 : foff Tryd.prog 242 2 = some 2 := by kernel_rfl
@[simp] theorem foff_242_3 : foff Tryd.prog 242 3 = some 3 := by kernel_rfl
@[simp] theorem foff_242_4 : foff Tryd.prog 242 4 = some 4 := by kernel_rfl
@[simp] theorem foff_242_5 : foff Tryd.prog 242 5 = some 5 := by kernel_rfl
@[simp] theorem foff_242_6 : foff Tryd.prog 242 6 = some 6 := by kernel_rfl
@[simp] theorem foff_242_7 : foff Tryd.prog 242 7 = some 7 := by kernel_rfl
@[simp] theorem foff_242_8 : foff Tryd.prog 242 8 = some 8 := by kernel_rfl
@[simp] theorem foff_242_9 : foff Tryd.prog 242 9 = some 9 := by kernel_rfl
@[simp] theorem foff_242_10 : foff Tryd.prog 242 10 = some 10 := by kernel_rfl
@[simp] theorem fplace_242 : fplace Tryd.prog 242 = some [(0, 1), (1, 1), (2, 1), (3, 1), (4, 1), (5, 1), (6, 1), (7, 1), (8, 1), (9, 1), (10, 1)] := by kernel_rfl
@[simp] theorem tk_243 : tk Tryd.prog 243 = .struct := by kernel_rfl
@[simp] theorem tsz_243 : tsz Tryd.prog 243 = some 11 := by kernel_rfl
@[simp] theorem tzero_243 : tzero Tryd.prog 243 = some ([.d (.int .u64 0), .d (.int .u64 0), .d (.int .u32 0), .d (.int .u8 0), .d (.int .u8 0), .d (.int .u8 0), .d (.int .u8 0), .lit .nilFunc, .lit (.pointer none), .d (.int .i32 0), .d (.int .i32 0)]) := by kernel_rfl
@[simp] theorem foff_243_0 : foff Tryd.prog 243 0 = some 0 := by kernel_rfl
@[simp] theorem foff_243_1 : foff Tryd.prog 243 1 = some 1 := by kernel_rfl
@[simp] theorem foff_243_2 : foff Tryd.prog 243 2 = some 2 := by kernel_rfl
@[simp] theorem foff_243_3 : foff Tryd.prog 243 3 = some 3 := by kernel_rfl
@[simp] theorem foff_243_4 : foff Tryd.prog 243 4 = some 4 := by kernel_rfl
@[simp] theorem foff_243_5 : foff Tryd.prog 243 5 = some 5 := by kernel_rfl
@[simp] theorem foff_243_6 : foff Tryd.prog 243 6 = some 6 := by kernel_rfl
@[simp] theorem foff_243_7 : foff Tryd.prog 243 7 = some 7 := by kernel_rfl
@[simp] theorem foff_243_8 : foff Tryd.prog 243 8 = some 8 := by kernel_rfl
@[simp] theorem foff_243_9 : foff Tryd.prog 243 9 = some 9 := by kernel_rfl
@[simp] theorem foff_243_10 : foff Tryd.prog 243 10 = some 10 := by kernel_rfl
@[simp] theorem fplace_243 : fplace Tryd.prog 243 = some [(0, 1), (1, 1), (2, 1), (3, 1), (4, 1), (5, 1), (6, 1), (7, 1), (8, 1), (9, 1), (10, 1)] := by kernel_rfl
end Go.Am
end
section
namespace Go.Am
open Go
def idxO : List D → Option D
  | [.str s, .str t] => if s.length < 4294967281 then some (.int .i64 (Go.Lib.index s t)) else none
  | _ => none
def ibO : List D → Option D
  | [.str s, .int .u8 c] => some (.int .i64 (Go.Lib.indexByte s c.toNat.toUInt8))
  | _ => none
def hpO : List D → Option D
  | [.str s, .str p] => some (.bool (Go.Lib.hasPrefix s p))
  | _ => none
attribute [simp] idxO.eq_1 ibO.eq_1 hpO.eq_1
end Go.Am
end
