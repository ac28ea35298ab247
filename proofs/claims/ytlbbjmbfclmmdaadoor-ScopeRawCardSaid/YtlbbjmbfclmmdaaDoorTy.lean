/-
  The types of this seat: each fact by the kernel.
-/
import Derived.Test.YtlbbjmbfclmmdaaDoorBm27
import Derived.Test.YtlbbjmbfclmmdaaDoorProg
import Derived.KernelRfl
namespace Go.Am
open Go Go.Proofs
@[simp] theorem tk_1 : tk Tryd.prog 1 = .func := by kernel_rfl
@[simp] theorem tsz_1 : tsz Tryd.prog 1 = some 1 := by kernel_rfl
@[simp] theorem tk_2 : tk Tryd.prog 2 = .int .i64 := by kernel_rfl
@[simp] theorem tsz_2 : tsz Tryd.prog 2 = some 1 := by kernel_rfl
@[simp] theorem tzero_2 : tzero Tryd.prog 2 = some ([.d (.int .i64 0)]) := by kernel_rfl
@[simp] theorem tbytes_2 : tbytes Tryd.prog 2 = some 8 := by kernel_rfl
@[simp] theorem tzeroD_2 : tzeroD Tryd.prog 2 = some (.int .i64 0) := by kernel_rfl
@[simp] theorem tk_3 : tk Tryd.prog 3 = .int .i64 := by kernel_rfl
@[simp] theorem tsz_3 : tsz Tryd.prog 3 = some 1 := by kernel_rfl
@[simp] theorem tzero_3 : tzero Tryd.prog 3 = some ([.d (.int .i64 0)]) := by kernel_rfl
@[simp] theorem tbytes_3 : tbytes Tryd.prog 3 = some 8 := by kernel_rfl
@[simp] theorem tzeroD_3 : tzeroD Tryd.prog 3 = some (.int .i64 0) := by kernel_rfl
@[simp] theorem tk_4 : tk Tryd.prog 4 = .bool := by kernel_rfl
@[simp] theorem tsz_4 : tsz Tryd.prog 4 = some 1 := by kernel_rfl
@[simp] theorem tzero_4 : tzero Tryd.prog 4 = some ([.d (.bool false)]) := by kernel_rfl
@[simp] theorem tbytes_4 : tbytes Tryd.prog 4 = some 1 := by kernel_rfl
@[simp] theorem tzeroD_4 : tzeroD Tryd.prog 4 = some (.bool false) := by kernel_rfl
@[simp] theorem tk_5 : tk Tryd.prog 5 = .int .u8 := by kernel_rfl
@[simp] theorem tsz_5 : tsz Tryd.prog 5 = some 1 := by kernel_rfl
@[simp] theorem tzero_5 : tzero Tryd.prog 5 = some ([.d (.int .u8 0)]) := by kernel_rfl
@[simp] theorem tbytes_5 : tbytes Tryd.prog 5 = some 1 := by kernel_rfl
@[simp] theorem tzeroD_5 : tzeroD Tryd.prog 5 = some (.int .u8 0) := by kernel_rfl
@[simp] theorem tk_6 : tk Tryd.prog 6 = .int .u8 := by kernel_rfl
@[simp] theorem tsz_6 : tsz Tryd.prog 6 = some 1 := by kernel_rfl
@[simp] theorem tzero_6 : tzero Tryd.prog 6 = some ([.d (.int .u8 0)]) := by kernel_rfl
@[simp] theorem tbytes_6 : tbytes Tryd.prog 6 = some 1 := by kernel_rfl
@[simp] theorem tzeroD_6 : tzeroD Tryd.prog 6 = some (.int .u8 0) := by kernel_rfl
@[simp] theorem tk_7 : tk Tryd.prog 7 = .struct := by kernel_rfl
@[simp] theorem tsz_7 : tsz Tryd.prog 7 = some 4 := by kernel_rfl
@[simp] theorem tzero_7 : tzero Tryd.prog 7 = some ([.d (.int .i64 0), .d (.int .i64 0), .d (.bool false), .d (.int .u8 0)]) := by kernel_rfl
@[simp] theorem tbytes_7 : tbytes Tryd.prog 7 = some 24 := by kernel_rfl
@[simp] theorem tzeroD_7 : tzeroD Tryd.prog 7 = some (.agg ([.int .i64 0, .int .i64 0, .bool false, .int .u8 0])) := by kernel_rfl
@[simp] theorem foff_7_0 : foff Tryd.prog 7 0 = some 0 := by kernel_rfl
@[simp] theorem foff_7_1 : foff Tryd.prog 7 1 = some 1 := by kernel_rfl
@[simp] theorem foff_7_2 : foff Tryd.prog 7 2 = some 2 := by kernel_rfl
@[simp] theorem foff_7_3 : foff Tryd.prog 7 3 = some 3 := by kernel_rfl
@[simp] theorem fplace_7 : fplace Tryd.prog 7 = some [(0, 1), (1, 1), (2, 1), (3, 1)] := by kernel_rfl
@[simp] theorem tk_8 : tk Tryd.prog 8 = .struct := by kernel_rfl
@[simp] theorem tsz_8 : tsz Tryd.prog 8 = some 4 := by kernel_rfl
@[simp] theorem tzero_8 : tzero Tryd.prog 8 = some ([.d (.int .i64 0), .d (.int .i64 0), .d (.bool false), .d (.int .u8 0)]) := by kernel_rfl
@[simp] theorem tbytes_8 : tbytes Tryd.prog 8 = some 24 := by kernel_rfl
@[simp] theorem tzeroD_8 : tzeroD Tryd.prog 8 = some (.agg ([.int .i64 0, .int .i64 0, .bool false, .int .u8 0])) := by kernel_rfl
@[simp] theorem foff_8_0 : foff Tryd.prog 8 0 = some 0 := by kernel_rfl
@[simp] theorem foff_8_1 : foff Tryd.prog 8 1 = some 1 := by kernel_rfl
@[simp] theorem foff_8_2 : foff Tryd.prog 8 2 = some 2 := by kernel_rfl
@[simp] theorem foff_8_3 : foff Tryd.prog 8 3 = some 3 := by kernel_rfl
@[simp] theorem fplace_8 : fplace Tryd.prog 8 = some [(0, 1), (1, 1), (2, 1), (3, 1)] := by kernel_rfl
@[simp] theorem tk_9 : tk Tryd.prog 9 = .str := by kernel_rfl
@[simp] theorem tsz_9 : tsz Tryd.prog 9 = some 1 := by kernel_rfl
@[simp] theorem tzero_9 : tzero Tryd.prog 9 = some ([.d (.str [])]) := by kernel_rfl
@[simp] theorem tbytes_9 : tbytes Tryd.prog 9 = some 16 := by kernel_rfl
@[simp] theorem tzeroD_9 : tzeroD Tryd.prog 9 = some (.str []) := by kernel_rfl
@[simp] theorem srcTy_9 : srcTy Tryd.prog 9 = true := by kernel_rfl
@[simp] theorem tk_10 : tk Tryd.prog 10 = .str := by kernel_rfl
@[simp] theorem tsz_10 : tsz Tryd.prog 10 = some 1 := by kernel_rfl
@[simp] theorem tzero_10 : tzero Tryd.prog 10 = some ([.d (.str [])]) := by kernel_rfl
@[simp] theorem tbytes_10 : tbytes Tryd.prog 10 = some 16 := by kernel_rfl
@[simp] theorem tzeroD_10 : tzeroD Tryd.prog 10 = some (.str []) := by kernel_rfl
@[simp] theorem srcTy_10 : srcTy Tryd.prog 10 = true := by kernel_rfl
@[simp] theorem tk_11 : tk Tryd.prog 11 = .str := by kernel_rfl
@[simp] theorem tsz_11 : tsz Tryd.prog 11 = some 1 := by kernel_rfl
@[simp] theorem tzero_11 : tzero Tryd.prog 11 = some ([.d (.str [])]) := by kernel_rfl
@[simp] theorem tbytes_11 : tbytes Tryd.prog 11 = some 16 := by kernel_rfl
@[simp] theorem tzeroD_11 : tzeroD Tryd.prog 11 = some (.str []) := by kernel_rfl
@[simp] theorem srcTy_11 : srcTy Tryd.prog 11 = true := by kernel_rfl
@[simp] theorem tk_12 : tk Tryd.prog 12 = .int .u64 := by kernel_rfl
@[simp] theorem tsz_12 : tsz Tryd.prog 12 = some 1 := by kernel_rfl
@[simp] theorem tzero_12 : tzero Tryd.prog 12 = some ([.d (.int .u64 0)]) := by kernel_rfl
@[simp] theorem tbytes_12 : tbytes Tryd.prog 12 = some 8 := by kernel_rfl
@[simp] theorem tzeroD_12 : tzeroD Tryd.prog 12 = some (.int .u64 0) := by kernel_rfl
@[simp] theorem tk_13 : tk Tryd.prog 13 = .struct := by kernel_rfl
@[simp] theorem tsz_13 : tsz Tryd.prog 13 = some 2 := by kernel_rfl
@[simp] theorem tzero_13 : tzero Tryd.prog 13 = some ([.d (.str []), .d (.int .u64 0)]) := by kernel_rfl
@[simp] theorem tbytes_13 : tbytes Tryd.prog 13 = some 24 := by kernel_rfl
@[simp] theorem tzeroD_13 : tzeroD Tryd.prog 13 = some (.agg ([.str [], .int .u64 0])) := by kernel_rfl
@[simp] theorem foff_13_0 : foff Tryd.prog 13 0 = some 0 := by kernel_rfl
@[simp] theorem foff_13_1 : foff Tryd.prog 13 1 = some 1 := by kernel_rfl
@[simp] theorem fplace_13 : fplace Tryd.prog 13 = some [(0, 1), (1, 1)] := by kernel_rfl
@[simp] theorem tk_14 : tk Tryd.prog 14 = .struct := by kernel_rfl
@[simp] theorem tsz_14 : tsz Tryd.prog 14 = some 2 := by kernel_rfl
@[simp] theorem tzero_14 : tzero Tryd.prog 14 = some ([.d (.str []), .d (.int .u64 0)]) := by kernel_rfl
@[simp] theorem tbytes_14 : tbytes Tryd.prog 14 = some 24 := by kernel_rfl
@[simp] theorem tzeroD_14 : tzeroD Tryd.prog 14 = some (.agg ([.str [], .int .u64 0])) := by kernel_rfl
@[simp] theorem foff_14_0 : foff Tryd.prog 14 0 = some 0 := by kernel_rfl
@[simp] theorem foff_14_1 : foff Tryd.prog 14 1 = some 1 := by kernel_rfl
@[simp] theorem fplace_14 : fplace Tryd.prog 14 = some [(0, 1), (1, 1)] := by kernel_rfl
@[simp] theorem tk_15 : tk Tryd.prog 15 = .ptr 73 := by kernel_rfl
@[simp] theorem tsz_15 : tsz Tryd.prog 15 = some 1 := by kernel_rfl
@[simp] theorem tk_16 : tk Tryd.prog 16 = .ptr 76 := by kernel_rfl
@[simp] theorem tsz_16 : tsz Tryd.prog 16 = some 1 := by kernel_rfl
@[simp] theorem tk_17 : tk Tryd.prog 17 = .ptr 85 := by kernel_rfl
@[simp] theorem tsz_17 : tsz Tryd.prog 17 = some 1 := by kernel_rfl
@[simp] theorem tk_18 : tk Tryd.prog 18 = .struct := by kernel_rfl
@[simp] theorem tsz_18 : tsz Tryd.prog 18 = some 1 := by kernel_rfl
@[simp] theorem tzero_18 : tzero Tryd.prog 18 = some ([.lit (.pointer none)]) := by kernel_rfl
@[simp] theorem foff_18_0 : foff Tryd.prog 18 0 = some 0 := by kernel_rfl
@[simp] theorem fplace_18 : fplace Tryd.prog 18 = some [(0, 1)] := by kernel_rfl
@[simp] theorem tk_19 : tk Tryd.prog 19 = .struct := by kernel_rfl
@[simp] theorem tsz_19 : tsz Tryd.prog 19 = some 1 := by kernel_rfl
@[simp] theorem tzero_19 : tzero Tryd.prog 19 = some ([.lit (.pointer none)]) := by kernel_rfl
@[simp] theorem foff_19_0 : foff Tryd.prog 19 0 = some 0 := by kernel_rfl
@[simp] theorem fplace_19 : fplace Tryd.prog 19 = some [(0, 1)] := by kernel_rfl
@[simp] theorem tk_20 : tk Tryd.prog 20 = .iface := by kernel_rfl
@[simp] theorem tsz_20 : tsz Tryd.prog 20 = some 1 := by kernel_rfl
@[simp] theorem tk_21 : tk Tryd.prog 21 = .int .i32 := by kernel_rfl
@[simp] theorem tsz_21 : tsz Tryd.prog 21 = some 1 := by kernel_rfl
@[simp] theorem tzero_21 : tzero Tryd.prog 21 = some ([.d (.int .i32 0)]) := by kernel_rfl
@[simp] theorem tbytes_21 : tbytes Tryd.prog 21 = some 4 := by kernel_rfl
@[simp] theorem tzeroD_21 : tzeroD Tryd.prog 21 = some (.int .i32 0) := by kernel_rfl
@[simp] theorem tk_22 : tk Tryd.prog 22 = .struct := by kernel_rfl
@[simp] theorem tsz_22 : tsz Tryd.prog 22 = some 6 := by kernel_rfl
@[simp] theorem tzero_22 : tzero Tryd.prog 22 = some ([.d (.int .i64 0), .d (.int .i64 0), .d (.int .i64 0), .d (.int .i64 0), .d (.int .i64 0), .d (.bool false)]) := by kernel_rfl
@[simp] theorem tbytes_22 : tbytes Tryd.prog 22 = some 48 := by kernel_rfl
@[simp] theorem tzeroD_22 : tzeroD Tryd.prog 22 = some (.agg ([.int .i64 0, .int .i64 0, .int .i64 0, .int .i64 0, .int .i64 0, .bool false])) := by kernel_rfl
@[simp] theorem foff_22_0 : foff Tryd.prog 22 0 = some 0 := by kernel_rfl
@[simp] theorem foff_22_1 : foff Tryd.prog 22 1 = some 1 := by kernel_rfl
@[simp] theorem foff_22_2 : foff Tryd.prog 22 2 = some 2 := by kernel_rfl
@[simp] theorem foff_22_3 : foff Tryd.prog 22 3 = some 3 := by kernel_rfl
@[simp] theorem foff_22_4 : foff Tryd.prog 22 4 = some 4 := by kernel_rfl
@[simp] theorem foff_22_5 : foff Tryd.prog 22 5 = some 5 := by kernel_rfl
@[simp] theorem fplace_22 : fplace Tryd.prog 22 = some [(0, 1), (1, 1), (2, 1), (3, 1), (4, 1), (5, 1)] := by kernel_rfl
@[simp] theorem flat_22 : flatStruct Tryd.prog 22 = some [.int .i64, .int .i64, .int .i64, .int .i64, .int .i64, .bool] := by kernel_rfl
@[simp] theorem tk_23 : tk Tryd.prog 23 = .struct := by kernel_rfl
@[simp] theorem tsz_23 : tsz Tryd.prog 23 = some 6 := by kernel_rfl
@[simp] theorem tzero_23 : tzero Tryd.prog 23 = some ([.d (.int .i64 0), .d (.int .i64 0), .d (.int .i64 0), .d (.int .i64 0), .d (.int .i64 0), .d (.bool false)]) := by kernel_rfl
@[simp] theorem tbytes_23 : tbytes Tryd.prog 23 = some 48 := by kernel_rfl
@[simp] theorem tzeroD_23 : tzeroD Tryd.prog 23 = some (.agg ([.int .i64 0, .int .i64 0, .int .i64 0, .int .i64 0, .int .i64 0, .bool false])) := by kernel_rfl
@[simp] theorem foff_23_0 : foff Tryd.prog 23 0 = some 0 := by kernel_rfl
@[simp] theorem foff_23_1 : foff Tryd.prog 23 1 = some 1 := by kernel_rfl
@[simp] theorem foff_23_2 : foff Tryd.prog 23 2 = some 2 := by kernel_rfl
@[simp] theorem foff_23_3 : foff Tryd.prog 23 3 = some 3 := by kernel_rfl
@[simp] theorem foff_23_4 : foff Tryd.prog 23 4 = some 4 := by kernel_rfl
@[simp] theorem foff_23_5 : foff Tryd.prog 23 5 = some 5 := by kernel_rfl
@[simp] theorem fplace_23 : fplace Tryd.prog 23 = some [(0, 1), (1, 1), (2, 1), (3, 1), (4, 1), (5, 1)] := by kernel_rfl
@[simp] theorem flat_23 : flatStruct Tryd.prog 23 = some [.int .i64, .int .i64, .int .i64, .int .i64, .int .i64, .bool] := by kernel_rfl
@[simp] theorem tk_24 : tk Tryd.prog 24 = .slice 36 := by kernel_rfl
@[simp] theorem tsz_24 : tsz Tryd.prog 24 = some 1 := by kernel_rfl
@[simp] theorem tzero_24 : tzero Tryd.prog 24 = some ([.lit (.slice none 0 0)]) := by kernel_rfl
@[simp] theorem tbytes_24 : tbytes Tryd.prog 24 = some 24 := by kernel_rfl
@[simp] theorem tzeroD_24 : tzeroD Tryd.prog 24 = some (.list []) := by kernel_rfl
@[simp] theorem srcTy_24 : srcTy Tryd.prog 24 = true := by kernel_rfl
@[simp] theorem tk_25 : tk Tryd.prog 25 = .func := by kernel_rfl
@[simp] theorem tsz_25 : tsz Tryd.prog 25 = some 1 := by kernel_rfl
@[simp] theorem tk_26 : tk Tryd.prog 26 = .func := by kernel_rfl
@[simp] theorem tsz_26 : tsz Tryd.prog 26 = some 1 := by kernel_rfl
@[simp] theorem tk_27 : tk Tryd.prog 27 = .struct := by kernel_rfl
@[simp] theorem tsz_27 : tsz Tryd.prog 27 = some 10 := by kernel_rfl
@[simp] theorem tzero_27 : tzero Tryd.prog 27 = some ([.d (.int .i64 0), .d (.int .i64 0), .d (.int .i64 0), .d (.int .i64 0), .d (.int .i64 0), .d (.bool false), .lit (.slice none 0 0), .d (.int .i64 0), .d (.int .i64 0), .d (.bool false)]) := by kernel_rfl
@[simp] theorem tbytes_27 : tbytes Tryd.prog 27 = some 96 := by kernel_rfl
@[simp] theorem tzeroD_27 : tzeroD Tryd.prog 27 = some (.agg ([.int .i64 0, .int .i64 0, .int .i64 0, .int .i64 0, .int .i64 0, .bool false, .list [], .int .i64 0, .int .i64 0, .bool false])) := by kernel_rfl
@[simp] theorem foff_27_0 : foff Tryd.prog 27 0 = some 0 := by kernel_rfl
@[simp] theorem foff_27_1 : foff Tryd.prog 27 1 = some 1 := by kernel_rfl
@[simp] theorem foff_27_2 : foff Tryd.prog 27 2 = some 2 := by kernel_rfl
@[simp] theorem foff_27_3 : foff Tryd.prog 27 3 = some 3 := by kernel_rfl
@[simp] theorem foff_27_4 : foff Tryd.prog 27 4 = some 4 := by kernel_rfl
@[simp] theorem foff_27_5 : foff Tryd.prog 27 5 = some 5 := by kernel_rfl
@[simp] theorem foff_27_6 : foff Tryd.prog 27 6 = some 6 := by kernel_rfl
@[simp] theorem foff_27_7 : foff Tryd.prog 27 7 = some 7 := by kernel_rfl
@[simp] theorem foff_27_8 : foff Tryd.prog 27 8 = some 8 := by kernel_rfl
@[simp] theorem foff_27_9 : foff Tryd.prog 27 9 = some 9 := by kernel_rfl
@[simp] theorem fplace_27 : fplace Tryd.prog 27 = some [(0, 1), (1, 1), (2, 1), (3, 1), (4, 1), (5, 1), (6, 1), (7, 1), (8, 1), (9, 1)] := by kernel_rfl
@[simp] theorem tk_28 : tk Tryd.prog 28 = .struct := by kernel_rfl
@[simp] theorem tsz_28 : tsz Tryd.prog 28 = some 10 := by kernel_rfl
@[simp] theorem tzero_28 : tzero Tryd.prog 28 = some ([.d (.int .i64 0), .d (.int .i64 0), .d (.int .i64 0), .d (.int .i64 0), .d (.int .i64 0), .d (.bool false), .lit (.slice none 0 0), .d (.int .i64 0), .d (.int .i64 0), .d (.bool false)]) := by kernel_rfl
@[simp] theorem tbytes_28 : tbytes Tryd.prog 28 = some 96 := by kernel_rfl
@[simp] theorem tzeroD_28 : tzeroD Tryd.prog 28 = some (.agg ([.int .i64 0, .int .i64 0, .int .i64 0, .int .i64 0, .int .i64 0, .bool false, .list [], .int .i64 0, .int .i64 0, .bool false])) := by kernel_rfl
@[simp] theorem foff_28_0 : foff Tryd.prog 28 0 = some 0 := by kernel_rfl
@[simp] theorem foff_28_1 : foff Tryd.prog 28 1 = some 1 := by kernel_rfl
@[simp] theorem foff_28_2 : foff Tryd.prog 28 2 = some 2 := by kernel_rfl
@[simp] theorem foff_28_3 : foff Tryd.prog 28 3 = some 3 := by kernel_rfl
@[simp] theorem foff_28_4 : foff Tryd.prog 28 4 = some 4 := by kernel_rfl
@[simp] theorem foff_28_5 : foff Tryd.prog 28 5 = some 5 := by kernel_rfl
@[simp] theorem foff_28_6 : foff Tryd.prog 28 6 = some 6 := by kernel_rfl
@[simp] theorem foff_28_7 : foff Tryd.prog 28 7 = some 7 := by kernel_rfl
@[simp] theorem foff_28_8 : foff Tryd.prog 28 8 = some 8 := by kernel_rfl
@[simp] theorem foff_28_9 : foff Tryd.prog 28 9 = some 9 := by kernel_rfl
@[simp] theorem fplace_28 : fplace Tryd.prog 28 = some [(0, 1), (1, 1), (2, 1), (3, 1), (4, 1), (5, 1), (6, 1), (7, 1), (8, 1), (9, 1)] := by kernel_rfl
@[simp] theorem tk_29 : tk Tryd.prog 29 = .int .i64 := by kernel_rfl
@[simp] theorem tsz_29 : tsz Tryd.prog 29 = some 1 := by kernel_rfl
@[simp] theorem tzero_29 : tzero Tryd.prog 29 = some ([.d (.int .i64 0)]) := by kernel_rfl
@[simp] theorem tbytes_29 : tbytes Tryd.prog 29 = some 8 := by kernel_rfl
@[simp] theorem tzeroD_29 : tzeroD Tryd.prog 29 = some (.int .i64 0) := by kernel_rfl
@[simp] theorem tk_31 : tk Tryd.prog 31 = .func := by kernel_rfl
@[simp] theorem tsz_31 : tsz Tryd.prog 31 = some 1 := by kernel_rfl
@[simp] theorem tk_32 : tk Tryd.prog 32 = .func := by kernel_rfl
@[simp] theorem tsz_32 : tsz Tryd.prog 32 = some 1 := by kernel_rfl
@[simp] theorem tk_33 : tk Tryd.prog 33 = .func := by kernel_rfl
@[simp] theorem tsz_33 : tsz Tryd.prog 33 = some 1 := by kernel_rfl
@[simp] theorem tk_34 : tk Tryd.prog 34 = .func := by kernel_rfl
@[simp] theorem tsz_34 : tsz Tryd.prog 34 = some 1 := by kernel_rfl
@[simp] theorem tk_35 : tk Tryd.prog 35 = .func := by kernel_rfl
@[simp] theorem tsz_35 : tsz Tryd.prog 35 = some 1 := by kernel_rfl
@[simp] theorem tk_36 : tk Tryd.prog 36 = .slice 2 := by kernel_rfl
@[simp] theorem tsz_36 : tsz Tryd.prog 36 = some 1 := by kernel_rfl
@[simp] theorem tzero_36 : tzero Tryd.prog 36 = some ([.lit (.slice none 0 0)]) := by kernel_rfl
@[simp] theorem tbytes_36 : tbytes Tryd.prog 36 = some 24 := by kernel_rfl
@[simp] theorem tzeroD_36 : tzeroD Tryd.prog 36 = some (.list []) := by kernel_rfl
@[simp] theorem srcTy_36 : srcTy Tryd.prog 36 = true := by kernel_rfl
@[simp] theorem tk_37 : tk Tryd.prog 37 = .func := by kernel_rfl
@[simp] theorem tsz_37 : tsz Tryd.prog 37 = some 1 := by kernel_rfl
@[simp] theorem tk_38 : tk Tryd.prog 38 = .func := by kernel_rfl
@[simp] theorem tsz_38 : tsz Tryd.prog 38 = some 1 := by kernel_rfl
@[simp] theorem tk_39 : tk Tryd.prog 39 = .func := by kernel_rfl
@[simp] theorem tsz_39 : tsz Tryd.prog 39 = some 1 := by kernel_rfl
@[simp] theorem tk_40 : tk Tryd.prog 40 = .func := by kernel_rfl
@[simp] theorem tsz_40 : tsz Tryd.prog 40 = some 1 := by kernel_rfl
@[simp] theorem tk_41 : tk Tryd.prog 41 = .func := by kernel_rfl
@[simp] theorem tsz_41 : tsz Tryd.prog 41 = some 1 := by kernel_rfl
@[simp] theorem tk_42 : tk Tryd.prog 42 = .func := by kernel_rfl
@[simp] theorem tsz_42 : tsz Tryd.prog 42 = some 1 := by kernel_rfl
@[simp] theorem tk_43 : tk Tryd.prog 43 = .func := by kernel_rfl
@[simp] theorem tsz_43 : tsz Tryd.prog 43 = some 1 := by kernel_rfl
@[simp] theorem tk_44 : tk Tryd.prog 44 = .func := by kernel_rfl
@[simp] theorem tsz_44 : tsz Tryd.prog 44 = some 1 := by kernel_rfl
@[simp] theorem tk_45 : tk Tryd.prog 45 = .func := by kernel_rfl
@[simp] theorem tsz_45 : tsz Tryd.prog 45 = some 1 := by kernel_rfl
@[simp] theorem tk_46 : tk Tryd.prog 46 = .func := by kernel_rfl
@[simp] theorem tsz_46 : tsz Tryd.prog 46 = some 1 := by kernel_rfl
@[simp] theorem tk_47 : tk Tryd.prog 47 = .slice 5 := by kernel_rfl
@[simp] theorem tsz_47 : tsz Tryd.prog 47 = some 1 := by kernel_rfl
@[simp] theorem tzero_47 : tzero Tryd.prog 47 = some ([.lit (.slice none 0 0)]) := by kernel_rfl
@[simp] theorem tbytes_47 : tbytes Tryd.prog 47 = some 24 := by kernel_rfl
@[simp] theorem tzeroD_47 : tzeroD Tryd.prog 47 = some (.list []) := by kernel_rfl
@[simp] theorem srcTy_47 : srcTy Tryd.prog 47 = true := by kernel_rfl
@[simp] theorem tk_48 : tk Tryd.prog 48 = .func := by kernel_rfl
@[simp] theorem tsz_48 : tsz Tryd.prog 48 = some 1 := by kernel_rfl
@[simp] theorem tk_49 : tk Tryd.prog 49 = .func := by kernel_rfl
@[simp] theorem tsz_49 : tsz Tryd.prog 49 = some 1 := by kernel_rfl
@[simp] theorem tk_50 : tk Tryd.prog 50 = .func := by kernel_rfl
@[simp] theorem tsz_50 : tsz Tryd.prog 50 = some 1 := by kernel_rfl
@[simp] theorem tk_51 : tk Tryd.prog 51 = .func := by kernel_rfl
@[simp] theorem tsz_51 : tsz Tryd.prog 51 = some 1 := by kernel_rfl
@[simp] theorem tk_52 : tk Tryd.prog 52 = .int .u64 := by kernel_rfl
@[simp] theorem tsz_52 : tsz Tryd.prog 52 = some 1 := by kernel_rfl
@[simp] theorem tzero_52 : tzero Tryd.prog 52 = some ([.d (.int .u64 0)]) := by kernel_rfl
@[simp] theorem tbytes_52 : tbytes Tryd.prog 52 = some 8 := by kernel_rfl
@[simp] theorem tzeroD_52 : tzeroD Tryd.prog 52 = some (.int .u64 0) := by kernel_rfl
@[simp] theorem tk_53 : tk Tryd.prog 53 = .func := by kernel_rfl
@[simp] theorem tsz_53 : tsz Tryd.prog 53 = some 1 := by kernel_rfl
@[simp] theorem tk_54 : tk Tryd.prog 54 = .func := by kernel_rfl
@[simp] theorem tsz_54 : tsz Tryd.prog 54 = some 1 := by kernel_rfl
@[simp] theorem tk_55 : tk Tryd.prog 55 = .arr 24 5 := by kernel_rfl
@[simp] theorem tsz_55 : tsz Tryd.prog 55 = some 24 := by kernel_rfl
@[simp] theorem tzero_55 : tzero Tryd.prog 55 = some ([.d (.int .u8 0), .d (.int .u8 0), .d (.int .u8 0), .d (.int .u8 0), .d (.int .u8 0), .d (.int .u8 0), .d (.int .u8 0), .d (.int .u8 0), .d (.int .u8 0), .d (.int .u8 0), .d (.int .u8 0), .d (.int .u8 0), .d (.int .u8 0), .d (.int .u8 0), .d (.int .u8 0), .d (.int .u8 0), .d (.int .u8 0), .d (.int .u8 0), .d (.int .u8 0), .d (.int .u8 0), .d (.int .u8 0), .d (.int .u8 0), .d (.int .u8 0), .d (.int .u8 0)]) := by kernel_rfl
@[simp] theorem tbytes_55 : tbytes Tryd.prog 55 = some 24 := by kernel_rfl
@[simp] theorem tzeroD_55 : tzeroD Tryd.prog 55 = some (.agg ([.int .u8 0, .int .u8 0, .int .u8 0, .int .u8 0, .int .u8 0, .int .u8 0, .int .u8 0, .int .u8 0, .int .u8 0, .int .u8 0, .int .u8 0, .int .u8 0, .int .u8 0, .int .u8 0, .int .u8 0, .int .u8 0, .int .u8 0, .int .u8 0, .int .u8 0, .int .u8 0, .int .u8 0, .int .u8 0, .int .u8 0, .int .u8 0])) := by kernel_rfl
@[simp] theorem fplace_55 : fplace Tryd.prog 55 = none := by kernel_rfl
@[simp] theorem tk_56 : tk Tryd.prog 56 = .func := by kernel_rfl
@[simp] theorem tsz_56 : tsz Tryd.prog 56 = some 1 := by kernel_rfl
@[simp] theorem tk_57 : tk Tryd.prog 57 = .func := by kernel_rfl
@[simp] theorem tsz_57 : tsz Tryd.prog 57 = some 1 := by kernel_rfl
@[simp] theorem tk_59 : tk Tryd.prog 59 = .func := by kernel_rfl
@[simp] theorem tsz_59 : tsz Tryd.prog 59 = some 1 := by kernel_rfl
@[simp] theorem tk_60 : tk Tryd.prog 60 = .func := by kernel_rfl
@[simp] theorem tsz_60 : tsz Tryd.prog 60 = some 1 := by kernel_rfl
@[simp] theorem tk_61 : tk Tryd.prog 61 = .func := by kernel_rfl
@[simp] theorem tsz_61 : tsz Tryd.prog 61 = some 1 := by kernel_rfl
@[simp] theorem tk_62 : tk Tryd.prog 62 = .arr 20 52 := by kernel_rfl
@[simp] theorem tsz_62 : tsz Tryd.prog 62 = some 20 := by kernel_rfl
@[simp] theorem tzero_62 : tzero Tryd.prog 62 = some ([.d (.int .u64 0), .d (.int .u64 0), .d (.int .u64 0), .d (.int .u64 0), .d (.int .u64 0), .d (.int .u64 0), .d (.int .u64 0), .d (.int .u64 0), .d (.int .u64 0), .d (.int .u64 0), .d (.int .u64 0), .d (.int .u64 0), .d (.int .u64 0), .d (.int .u64 0), .d (.int .u64 0), .d (.int .u64 0), .d (.int .u64 0), .d (.int .u64 0), .d (.int .u64 0), .d (.int .u64 0)]) := by kernel_rfl
@[simp] theorem tbytes_62 : tbytes Tryd.prog 62 = some 160 := by kernel_rfl
@[simp] theorem tzeroD_62 : tzeroD Tryd.prog 62 = some (.agg ([.int .u64 0, .int .u64 0, .int .u64 0, .int .u64 0, .int .u64 0, .int .u64 0, .int .u64 0, .int .u64 0, .int .u64 0, .int .u64 0, .int .u64 0, .int .u64 0, .int .u64 0, .int .u64 0, .int .u64 0, .int .u64 0, .int .u64 0, .int .u64 0, .int .u64 0, .int .u64 0])) := by kernel_rfl
@[simp] theorem fplace_62 : fplace Tryd.prog 62 = none := by kernel_rfl
@[simp] theorem tk_63 : tk Tryd.prog 63 = .int .u32 := by kernel_rfl
@[simp] theorem tsz_63 : tsz Tryd.prog 63 = some 1 := by kernel_rfl
@[simp] theorem tzero_63 : tzero Tryd.prog 63 = some ([.d (.int .u32 0)]) := by kernel_rfl
@[simp] theorem tbytes_63 : tbytes Tryd.prog 63 = some 4 := by kernel_rfl
@[simp] theorem tzeroD_63 : tzeroD Tryd.prog 63 = some (.int .u32 0) := by kernel_rfl
@[simp] theorem tk_64 : tk Tryd.prog 64 = .arr 65 5 := by kernel_rfl
@[simp] theorem tsz_64 : tsz Tryd.prog 64 = some 65 := by kernel_rfl
@[simp] theorem tzero_64 : tzero Tryd.prog 64 = some (List.replicate 65 (.d (.int .u8 0))) := by kernel_rfl
@[simp] theorem tbytes_64 : tbytes Tryd.prog 64 = some 65 := by kernel_rfl
@[simp] theorem tzeroD_64 : tzeroD Tryd.prog 64 = some (.agg (List.replicate 65 (.int .u8 0))) := by kernel_rfl
@[simp] theorem fplace_64 : fplace Tryd.prog 64 = none := by kernel_rfl
@[simp] theorem tk_65 : tk Tryd.prog 65 = .func := by kernel_rfl
@[simp] theorem tsz_65 : tsz Tryd.prog 65 = some 1 := by kernel_rfl
@[simp] theorem tk_66 : tk Tryd.prog 66 = .int .u64 := by kernel_rfl
@[simp] theorem tsz_66 : tsz Tryd.prog 66 = some 1 := by kernel_rfl
@[simp] theorem tzero_66 : tzero Tryd.prog 66 = some ([.d (.int .u64 0)]) := by kernel_rfl
@[simp] theorem tbytes_66 : tbytes Tryd.prog 66 = some 8 := by kernel_rfl
@[simp] theorem tzeroD_66 : tzeroD Tryd.prog 66 = some (.int .u64 0) := by kernel_rfl
@[simp] theorem tk_67 : tk Tryd.prog 67 = .func := by kernel_rfl
@[simp] theorem tsz_67 : tsz Tryd.prog 67 = some 1 := by kernel_rfl
@[simp] theorem tk_68 : tk Tryd.prog 68 = .func := by kernel_rfl
@[simp] theorem tsz_68 : tsz Tryd.prog 68 = some 1 := by kernel_rfl
@[simp] theorem tk_69 : tk Tryd.prog 69 = .arr 32 5 := by kernel_rfl
@[simp] theorem tsz_69 : tsz Tryd.prog 69 = some 32 := by kernel_rfl
@[simp] theorem tzero_69 : tzero Tryd.prog 69 = some ([.d (.int .u8 0), .d (.int .u8 0), .d (.int .u8 0), .d (.int .u8 0), .d (.int .u8 0), .d (.int .u8 0), .d (.int .u8 0), .d (.int .u8 0), .d (.int .u8 0), .d (.int .u8 0), .d (.int .u8 0), .d (.int .u8 0), .d (.int .u8 0), .d (.int .u8 0), .d (.int .u8 0), .d (.int .u8 0), .d (.int .u8 0), .d (.int .u8 0), .d (.int .u8 0), .d (.int .u8 0), .d (.int .u8 0), .d (.int .u8 0), .d (.int .u8 0), .d (.int .u8 0), .d (.int .u8 0), .d (.int .u8 0), .d (.int .u8 0), .d (.int .u8 0), .d (.int .u8 0), .d (.int .u8 0), .d (.int .u8 0), .d (.int .u8 0)]) := by kernel_rfl
@[simp] theorem tbytes_69 : tbytes Tryd.prog 69 = some 32 := by kernel_rfl
@[simp] theorem tzeroD_69 : tzeroD Tryd.prog 69 = some (.agg ([.int .u8 0, .int .u8 0, .int .u8 0, .int .u8 0, .int .u8 0, .int .u8 0, .int .u8 0, .int .u8 0, .int .u8 0, .int .u8 0, .int .u8 0, .int .u8 0, .int .u8 0, .int .u8 0, .int .u8 0, .int .u8 0, .int .u8 0, .int .u8 0, .int .u8 0, .int .u8 0, .int .u8 0, .int .u8 0, .int .u8 0, .int .u8 0, .int .u8 0, .int .u8 0, .int .u8 0, .int .u8 0, .int .u8 0, .int .u8 0, .int .u8 0, .int .u8 0])) := by kernel_rfl
@[simp] theorem fplace_69 : fplace Tryd.prog 69 = none := by kernel_rfl
@[simp] theorem tk_70 : tk Tryd.prog 70 = .arr 64 5 := by kernel_rfl
@[simp] theorem tsz_70 : tsz Tryd.prog 70 = some 64 := by kernel_rfl
@[simp] theorem tzero_70 : tzero Tryd.prog 70 = some (List.replicate 64 (.d (.int .u8 0))) := by kernel_rfl
@[simp] theorem tbytes_70 : tbytes Tryd.prog 70 = some 64 := by kernel_rfl
@[simp] theorem tzeroD_70 : tzeroD Tryd.prog 70 = some (.agg (List.replicate 64 (.int .u8 0))) := by kernel_rfl
@[simp] theorem fplace_70 : fplace Tryd.prog 70 = none := by kernel_rfl
@[simp] theorem tk_71 : tk Tryd.prog 71 = .func := by kernel_rfl
@[simp] theorem tsz_71 : tsz Tryd.prog 71 = some 1 := by kernel_rfl
@[simp] theorem tk_72 : tk Tryd.prog 72 = .struct := by kernel_rfl
@[simp] theorem tsz_72 : tsz Tryd.prog 72 = some 4 := by kernel_rfl
@[simp] theorem tzero_72 : tzero Tryd.prog 72 = some ([.lit (.pointer none), .lit (.pointer none), .lit (.pointer none), .d (.str [])]) := by kernel_rfl
@[simp] theorem foff_72_0 : foff Tryd.prog 72 0 = some 0 := by kernel_rfl
@[simp] theorem foff_72_1 : foff Tryd.prog 72 1 = some 1 := by kernel_rfl
@[simp] theorem foff_72_2 : foff Tryd.prog 72 2 = some 2 := by kernel_rfl
@[simp] theorem foff_72_3 : foff Tryd.prog 72 3 = some 3 := by kernel_rfl
@[simp] theorem fplace_72 : fplace Tryd.prog 72 = some [(0, 1), (1, 1), (2, 1), (3, 1)] := by kernel_rfl
@[simp] theorem tk_73 : tk Tryd.prog 73 = .struct := by kernel_rfl
@[simp] theorem tsz_73 : tsz Tryd.prog 73 = some 4 := by kernel_rfl
@[simp] theorem tzero_73 : tzero Tryd.prog 73 = some ([.lit (.pointer none), .lit (.pointer none), .lit (.pointer none), .d (.str [])]) := by kernel_rfl
@[simp] theorem foff_73_0 : foff Tryd.prog 73 0 = some 0 := by kernel_rfl
@[simp] theorem foff_73_1 : foff Tryd.prog 73 1 = some 1 := by kernel_rfl
@[simp] theorem foff_73_2 : foff Tryd.prog 73 2 = some 2 := by kernel_rfl
@[simp] theorem foff_73_3 : foff Tryd.prog 73 3 = some 3 := by kernel_rfl
@[simp] theorem fplace_73 : fplace Tryd.prog 73 = some [(0, 1), (1, 1), (2, 1), (3, 1)] := by kernel_rfl
@[simp] theorem tk_74 : tk Tryd.prog 74 = .arr 0 16 := by kernel_rfl
@[simp] theorem tsz_74 : tsz Tryd.prog 74 = some 0 := by kernel_rfl
@[simp] theorem tzero_74 : tzero Tryd.prog 74 = some ([]) := by kernel_rfl
@[simp] theorem tbytes_74 : tbytes Tryd.prog 74 = some 0 := by kernel_rfl
@[simp] theorem tzeroD_74 : tzeroD Tryd.prog 74 = some (.agg ([])) := by kernel_rfl
@[simp] theorem fplace_74 : fplace Tryd.prog 74 = none := by kernel_rfl
@[simp] theorem tk_75 : tk Tryd.prog 75 = .struct := by kernel_rfl
@[simp] theorem tsz_75 : tsz Tryd.prog 75 = some 0 := by kernel_rfl
@[simp] theorem tzero_75 : tzero Tryd.prog 75 = some ([]) := by kernel_rfl
@[simp] theorem tbytes_75 : tbytes Tryd.prog 75 = some 0 := by kernel_rfl
@[simp] theorem tzeroD_75 : tzeroD Tryd.prog 75 = some (.agg ([])) := by kernel_rfl
@[simp] theorem fplace_75 : fplace Tryd.prog 75 = some [(0, 0)] := by kernel_rfl
@[simp] theorem tk_76 : tk Tryd.prog 76 = .struct := by kernel_rfl
@[simp] theorem tsz_76 : tsz Tryd.prog 76 = some 0 := by kernel_rfl
@[simp] theorem tzero_76 : tzero Tryd.prog 76 = some ([]) := by kernel_rfl
@[simp] theorem tbytes_76 : tbytes Tryd.prog 76 = some 0 := by kernel_rfl
@[simp] theorem tzeroD_76 : tzeroD Tryd.prog 76 = some (.agg ([])) := by kernel_rfl
@[simp] theorem fplace_76 : fplace Tryd.prog 76 = some [(0, 0)] := by kernel_rfl
@[simp] theorem tk_77 : tk Tryd.prog 77 = .func := by kernel_rfl
@[simp] theorem tsz_77 : tsz Tryd.prog 77 = some 1 := by kernel_rfl
@[simp] theorem tk_78 : tk Tryd.prog 78 = .int .u8 := by kernel_rfl
@[simp] theorem tsz_78 : tsz Tryd.prog 78 = some 1 := by kernel_rfl
@[simp] theorem tzero_78 : tzero Tryd.prog 78 = some ([.d (.int .u8 0)]) := by kernel_rfl
@[simp] theorem tbytes_78 : tbytes Tryd.prog 78 = some 1 := by kernel_rfl
@[simp] theorem tzeroD_78 : tzeroD Tryd.prog 78 = some (.int .u8 0) := by kernel_rfl
@[simp] theorem tk_79 : tk Tryd.prog 79 = .int .u8 := by kernel_rfl
@[simp] theorem tsz_79 : tsz Tryd.prog 79 = some 1 := by kernel_rfl
@[simp] theorem tzero_79 : tzero Tryd.prog 79 = some ([.d (.int .u8 0)]) := by kernel_rfl
@[simp] theorem tbytes_79 : tbytes Tryd.prog 79 = some 1 := by kernel_rfl
@[simp] theorem tzeroD_79 : tzeroD Tryd.prog 79 = some (.int .u8 0) := by kernel_rfl
@[simp] theorem tk_80 : tk Tryd.prog 80 = .func := by kernel_rfl
@[simp] theorem tsz_80 : tsz Tryd.prog 80 = some 1 := by kernel_rfl
@[simp] theorem tk_81 : tk Tryd.prog 81 = .ptr 5 := by kernel_rfl
@[simp] theorem tsz_81 : tsz Tryd.prog 81 = some 1 := by kernel_rfl
@[simp] theorem tk_82 : tk Tryd.prog 82 = .int .i32 := by kernel_rfl
@[simp] theorem tsz_82 : tsz Tryd.prog 82 = some 1 := by kernel_rfl
@[simp] theorem tzero_82 : tzero Tryd.prog 82 = some ([.d (.int .i32 0)]) := by kernel_rfl
@[simp] theorem tbytes_82 : tbytes Tryd.prog 82 = some 4 := by kernel_rfl
@[simp] theorem tzeroD_82 : tzeroD Tryd.prog 82 = some (.int .i32 0) := by kernel_rfl
@[simp] theorem tk_83 : tk Tryd.prog 83 = .int .i32 := by kernel_rfl
@[simp] theorem tsz_83 : tsz Tryd.prog 83 = some 1 := by kernel_rfl
@[simp] theorem tzero_83 : tzero Tryd.prog 83 = some ([.d (.int .i32 0)]) := by kernel_rfl
@[simp] theorem tbytes_83 : tbytes Tryd.prog 83 = some 4 := by kernel_rfl
@[simp] theorem tzeroD_83 : tzeroD Tryd.prog 83 = some (.int .i32 0) := by kernel_rfl
@[simp] theorem tk_84 : tk Tryd.prog 84 = .struct := by kernel_rfl
@[simp] theorem tsz_84 : tsz Tryd.prog 84 = some 11 := by kernel_rfl
@[simp] theorem tzero_84 : tzero Tryd.prog 84 = some ([.d (.int .u64 0), .d (.int .u64 0), .d (.int .u32 0), .d (.int .u8 0), .d (.int .u8 0), .d (.int .u8 0), .d (.int .u8 0), .lit .nilFunc, .lit (.pointer none), .d (.int .i32 0), .d (.int .i32 0)]) := by kernel_rfl
@[simp] theorem foff_84_0 : foff Tryd.prog 84 0 = some 0 := by kernel_rfl
@[simp] theorem foff_84_1 : foff Tryd.prog 84 1 = some 1 := by kernel_rfl
@[simp] theorem foff_84_2 : foff Tryd.prog 84 2 = some 2 := by kernel_rfl
@[simp] theorem foff_84_3 : foff Tryd.prog 84 3 = some 3 := by kernel_rfl
@[simp] theorem foff_84_4 : foff Tryd.prog 84 4 = some 4 := by kernel_rfl
@[simp] theorem foff_84_5 : foff Tryd.prog 84 5 = some 5 := by kernel_rfl
@[simp] theorem foff_84_6 : foff Tryd.prog 84 6 = some 6 := by kernel_rfl
@[simp] theorem foff_84_7 : foff Tryd.prog 84 7 = some 7 := by kernel_rfl
@[simp] theorem foff_84_8 : foff Tryd.prog 84 8 = some 8 := by kernel_rfl
@[simp] theorem foff_84_9 : foff Tryd.prog 84 9 = some 9 := by kernel_rfl
@[simp] theorem foff_84_10 : foff Tryd.prog 84 10 = some 10 := by kernel_rfl
@[simp] theorem fplace_84 : fplace Tryd.prog 84 = some [(0, 1), (1, 1), (2, 1), (3, 1), (4, 1), (5, 1), (6, 1), (7, 1), (8, 1), (9, 1), (10, 1)] := by kernel_rfl
@[simp] theorem tk_85 : tk Tryd.prog 85 = .struct := by kernel_rfl
@[simp] theorem tsz_85 : tsz Tryd.prog 85 = some 11 := by kernel_rfl
@[simp] theorem tzero_85 : tzero Tryd.prog 85 = some ([.d (.int .u64 0), .d (.int .u64 0), .d (.int .u32 0), .d (.int .u8 0), .d (.int .u8 0), .d (.int .u8 0), .d (.int .u8 0), .lit .nilFunc, .lit (.pointer none), .d (.int .i32 0), .d (.int .i32 0)]) := by kernel_rfl
@[simp] theorem foff_85_0 : foff Tryd.prog 85 0 = some 0 := by kernel_rfl
@[simp] theorem foff_85_1 : foff Tryd.prog 85 1 = some 1 := by kernel_rfl
@[simp] theorem foff_85_2 : foff Tryd.prog 85 2 = some 2 := by kernel_rfl
@[simp] theorem foff_85_3 : foff Tryd.prog 85 3 = some 3 := by kernel_rfl
@[simp] theorem foff_85_4 : foff Tryd.prog 85 4 = some 4 := by kernel_rfl
@[simp] theorem foff_85_5 : foff Tryd.prog 85 5 = some 5 := by kernel_rfl
@[simp] theorem foff_85_6 : foff Tryd.prog 85 6 = some 6 := by kernel_rfl
@[simp] theorem foff_85_7 : foff Tryd.prog 85 7 = some 7 := by kernel_rfl
@[simp] theorem foff_85_8 : foff Tryd.prog 85 8 = some 8 := by kernel_rfl
@[simp] theorem foff_85_9 : foff Tryd.prog 85 9 = some 9 := by kernel_rfl
@[simp] theorem foff_85_10 : foff Tryd.prog 85 10 = some 10 := by kernel_rfl
@[simp] theorem fplace_85 : fplace Tryd.prog 85 = some [(0, 1), (1, 1), (2, 1), (3, 1), (4, 1), (5, 1), (6, 1), (7, 1), (8, 1), (9, 1), (10, 1)] := by kernel_rfl
end Go.Am
