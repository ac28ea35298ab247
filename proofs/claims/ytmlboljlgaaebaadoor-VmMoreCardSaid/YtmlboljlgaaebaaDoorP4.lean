/-
  Texts of one proof, one behind the other.
-/
import Derived.Test.YtmlboljlgaaebaaDoorP3
import Derived.Test.YtmlboljlgaaebaaDoorProg
import Derived.KernelRfl
import Derived.Lib.Bytealg
import Derived.Lib.Index
import Derived.Lib.Strings
set_option linter.all false
section
namespace Go.Am
open Go
open Go.Proofs
@[simp] theorem tk_1 : tk Tryd.prog 1 = .func := by kernel_rfl
@[simp] theorem tsz_1 : tsz Tryd.prog 1 = some 1 := by kernel_rfl
@[simp] theorem tk_2 : tk Tryd.prog 2 = .int .i64 := by kernel_rfl
@[simp] theorem tsz_2 : tsz Tryd.prog 2 = some 1 := by kernel_rfl
@[simp] theorem tzero_2 : tzero Tryd.prog 2 = some ([.d (.int .i64 0)]) := by kernel_rfl
@[simp] theorem tbytes_2 : tbytes Tryd.prog 2 = some 8 := by kernel_rfl
@[simp] theorem tzeroD_2 : tzeroD Tryd.prog 2 = some (.int .i64 0) := by kernel_rfl
@[simp] theorem tk_3 : tk Tryd.prog 3 = .int .i64 := by kernel_rfl
@[simp] theorem tsz_3 : tsz Tryd.prog 3 = some 1 := by kernel_rfl
@[simp] theorem tzero_3 : tzero Tryd.prog 3 = some ([.d (.int .i64 0)]) := by kernel_rfl
@[simp] theorem tbytes_3 : tbytes Tryd.prog 3 = some 8 := by kernel_rfl
@[simp] theorem tzeroD_3 : tzeroD Tryd.prog 3 = some (.int .i64 0) := by kernel_rfl
@[simp] theorem tk_4 : tk Tryd.prog 4 = .bool := by kernel_rfl
@[simp] theorem tsz_4 : tsz Tryd.prog 4 = some 1 := by kernel_rfl
@[simp] theorem tzero_4 : tzero Tryd.prog 4 = some ([.d (.bool false)]) := by kernel_rfl
@[simp] theorem tbytes_4 : tbytes Tryd.prog 4 = some 1 := by kernel_rfl
@[simp] theorem tzeroD_4 : tzeroD Tryd.prog 4 = some (.bool false) := by kernel_rfl
@[simp] theorem tk_5 : tk Tryd.prog 5 = .int .u8 := by kernel_rfl
@[simp] theorem tsz_5 : tsz Tryd.prog 5 = some 1 := by kernel_rfl
@[simp] theorem tzero_5 : tzero Tryd.prog 5 = some ([.d (.int .u8 0)]) := by kernel_rfl
@[simp] theorem tbytes_5 : tbytes Tryd.prog 5 = some 1 := by kernel_rfl
@[simp] theorem tzeroD_5 : tzeroD Tryd.prog 5 = some (.int .u8 0) := by kernel_rfl
@[simp] theorem tk_6 : tk Tryd.prog 6 = .int .u8 := by kernel_rfl
@[simp] theorem tsz_6 : tsz Tryd.prog 6 = some 1 := by kernel_rfl
@[simp] theorem tzero_6 : tzero Tryd.prog 6 = some ([.d (.int .u8 0)]) := by kernel_rfl
@[simp] theorem tbytes_6 : tbytes Tryd.prog 6 = some 1 := by kernel_rfl
@[simp] theorem tzeroD_6 : tzeroD Tryd.prog 6 = some (.int .u8 0) := by kernel_rfl
@[simp] theorem tk_7 : tk Tryd.prog 7 = .struct := by kernel_rfl
@[simp] theorem tsz_7 : tsz Tryd.prog 7 = some 4 := by kernel_rfl
@[simp] theorem tzero_7 : tzero Tryd.prog 7 = some ([.d (.int .i64 0), .d (.int .i64 0), .d (.bool false), .d (.int .u8 0)]) := by kernel_rfl
@[simp] theorem tbytes_7 : tbytes Tryd.prog 7 = some 24 := by kernel_rfl
@[simp] theorem tzeroD_7 : tzeroD Tryd.prog 7 = some (.agg ([.int .i64 0, .int .i64 0, .bool false, .int .u8 0])) := by kernel_rfl
@[simp] theorem foff_7_0 : foff Tryd.prog 7 0 = some 0 := by kernel_rfl
@[simp] theorem foff_7_1 : foff Tryd.prog 7 1 = some 1 := by kernel_rfl
@[simp] theorem foff_7_2 : foff Tryd.prog 7 2 = some 2 := by kernel_rfl
@[simp] theorem foff_7_3 : foff Tryd.prog 7 3 = some 3 := by kernel_rfl
@[simp] theorem fplace_7 : fplace Tryd.prog 7 = some [(0, 1), (1, 1), (2, 1), (3, 1)] := by kernel_rfl
@[simp] theorem tk_8 : tk Tryd.prog 8 = .struct := by kernel_rfl
@[simp] theorem tsz_8 : tsz Tryd.prog 8 = some 4 := by kernel_rfl
@[simp] theorem tzero_8 : tzero Tryd.prog 8 = some ([.d (.int .i64 0), .d (.int .i64 0), .d (.bool false), .d (.int .u8 0)]) := by kernel_rfl
@[simp] theorem tbytes_8 : tbytes Tryd.prog 8 = some 24 := by kernel_rfl
@[simp] theorem tzeroD_8 : tzeroD Tryd.prog 8 = some (.agg ([.int .i64 0, .int .i64 0, .bool false, .int .u8 0])) := by kernel_rfl
@[simp] theorem foff_8_0 : foff Tryd.prog 8 0 = some 0 := by kernel_rfl
@[simp] theorem foff_8_1 : foff Tryd.prog 8 1 = some 1 := by kernel_rfl
@[simp] theorem foff_8_2 : foff Tryd.prog 8 2 = some 2 := by kernel_rfl
@[simp] theorem foff_8_3 : foff Tryd.prog 8 3 = some 3 := by kernel_rfl
@[simp] theorem fplace_8 : fplace Tryd.prog 8 = some [(0, 1), (1, 1), (2, 1), (3, 1)] := by kernel_rfl
@[simp] theorem tk_9 : tk Tryd.prog 9 = .str := by kernel_rfl
@[simp] theorem tsz_9 : tsz Tryd.prog 9 = some 1 := by kernel_rfl
@[simp] theorem tzero_9 : tzero Tryd.prog 9 = some ([.d (.str [])]) := by kernel_rfl
@[simp] theorem tbytes_9 : tbytes Tryd.prog 9 = some 16 := by kernel_rfl
@[simp] theorem tzeroD_9 : tzeroD Tryd.prog 9 = some (.str []) := by kernel_rfl
@[simp] theorem srcTy_9 : srcTy Tryd.prog 9 = true := by kernel_rfl
@[simp] theorem tk_10 : tk Tryd.prog 10 = .str := by kernel_rfl
@[simp] theorem tsz_10 : tsz Tryd.prog 10 = some 1 := by kernel_rfl
@[simp] theorem tzero_10 : tzero Tryd.prog 10 = some ([.d (.str [])]) := by kernel_rfl
@[simp] theorem tbytes_10 : tbytes Tryd.prog 10 = some 16 := by kernel_rfl
@[simp] theorem tzeroD_10 : tzeroD Tryd.prog 10 = some (.str []) := by kernel_rfl
@[simp] theorem srcTy_10 : srcTy Tryd.prog 10 = true := by kernel_rfl
@[simp] theorem tk_11 : tk Tryd.prog 11 = .str := by kernel_rfl
@[simp] theorem tsz_11 : tsz Tryd.prog 11 = some 1 := by kernel_rfl
@[simp] theorem tzero_11 : tzero Tryd.prog 11 = some ([.d (.str [])]) := by kernel_rfl
@[simp] theorem tbytes_11 : tbytes Tryd.prog 11 = some 16 := by kernel_rfl
@[simp] theorem tzeroD_11 : tzeroD Tryd.prog 11 = some (.str []) := by kernel_rfl
@[simp] theorem srcTy_11 : srcTy Tryd.prog 11 = true := by kernel_rfl
@[simp] theorem tk_12 : tk Tryd.prog 12 = .int .u64 := by kernel_rfl
@[simp] theorem tsz_12 : tsz Tryd.prog 12 = some 1 := by kernel_rfl
@[simp] theorem tzero_12 : tzero Tryd.prog 12 = some ([.d (.int .u64 0)]) := by kernel_rfl
@[simp] theorem tbytes_12 : tbytes Tryd.prog 12 = some 8 := by kernel_rfl
@[simp] theorem tzeroD_12 : tzeroD Tryd.prog 12 = some (.int .u64 0) := by kernel_rfl
@[simp] theorem tk_13 : tk Tryd.prog 13 = .struct := by kernel_rfl
@[simp] theorem tsz_13 : tsz Tryd.prog 13 = some 2 := by kernel_rfl
@[simp] theorem tzero_13 : tzero Tryd.prog 13 = some ([.d (.str []), .d (.int .u64 0)]) := by kernel_rfl
@[simp] theorem tbytes_13 : tbytes Tryd.prog 13 = some 24 := by kernel_rfl
@[simp] theorem tzeroD_13 : tzeroD Tryd.prog 13 = some (.agg ([.str [], .int .u64 0])) := by kernel_rfl
@[simp] theorem foff_13_0 : foff Tryd.prog 13 0 = some 0 := by kernel_rfl
@[simp] theorem foff_13_1 : foff Tryd.prog 13 1 = some 1 := by kernel_rfl
@[simp] theorem fplace_13 : fplace Tryd.prog 13 = some [(0, 1), (1, 1)] := by kernel_rfl
@[simp] theorem tk_14 : tk Tryd.prog 14 = .struct := by kernel_rfl
@[simp] theorem tsz_14 : tsz Tryd.prog 14 = some 2 := by kernel_rfl
@[simp] theorem tzero_14 : tzero Tryd.prog 14 = some ([.d (.str []), .d (.int .u64 0)]) := by kernel_rfl
@[simp] theorem tbytes_14 : tbytes Tryd.prog 14 = some 24 := by kernel_rfl
@[simp] theorem tzeroD_14 : tzeroD Tryd.prog 14 = some (.agg ([.str [], .int .u64 0])) := by kernel_rfl
@[simp] theorem foff_14_0 : foff Tryd.prog 14 0 = some 0 := by kernel_rfl
@[simp] theorem foff_14_1 : foff Tryd.prog 14 1 = some 1 := by kernel_rfl
@[simp] theorem fplace_14 : fplace Tryd.prog 14 = some [(0, 1), (1, 1)] := by kernel_rfl
@[simp] theorem tk_15 : tk Tryd.prog 15 = .ptr 158 := by kernel_rfl
@[simp] theorem tsz_15 : tsz Tryd.prog 15 = some 1 := by kernel_rfl
@[simp] theorem tk_16 : tk Tryd.prog 16 = .ptr 161 := by kernel_rfl
@[simp] theorem tsz_16 : tsz Tryd.prog 16 = some 1 := by kernel_rfl
@[simp] theorem tk_17 : tk Tryd.prog 17 = .ptr 170 := by kernel_rfl
@[simp] theorem tsz_17 : tsz Tryd.prog 17 = some 1 := by kernel_rfl
@[simp] theorem tk_18 : tk Tryd.prog 18 = .struct := by kernel_rfl
@[simp] theorem tsz_18 : tsz Tryd.prog 18 = some 1 := by kernel_rfl
@[simp] theorem tzero_18 : tzero Tryd.prog 18 = some ([.lit (.pointer none)]) := by kernel_rfl
@[simp] theorem foff_18_0 : foff Tryd.prog 18 0 = some 0 := by kernel_rfl
@[simp] theorem fplace_18 : fplace Tryd.prog 18 = some [(0, 1)] := by kernel_rfl
@[simp] theorem tk_19 : tk Tryd.prog 19 = .struct := by kernel_rfl
@[simp] theorem tsz_19 : tsz Tryd.prog 19 = some 1 := by kernel_rfl
@[simp] theorem tzero_19 : tzero Tryd.prog 19 = some ([.lit (.pointer none)]) := by kernel_rfl
@[simp] theorem foff_19_0 : foff Tryd.prog 19 0 = some 0 := by kernel_rfl
@[simp] theorem fplace_19 : fplace Tryd.prog 19 = some [(0, 1)] := by kernel_rfl
@[simp] theorem tk_20 : tk Tryd.prog 20 = .iface := by kernel_rfl
@[simp] theorem tsz_20 : tsz Tryd.prog 20 = some 1 := by kernel_rfl
@[simp] theorem tk_21 : tk Tryd.prog 21 = .int .i32 := by kernel_rfl
@[simp] theorem tsz_21 : tsz Tryd.prog 21 = some 1 := by kernel_rfl
@[simp] theorem tzero_21 : tzero Tryd.prog 21 = some ([.d (.int .i32 0)]) := by kernel_rfl
@[simp] theorem tbytes_21 : tbytes Tryd.prog 21 = some 4 := by kernel_rfl
@[simp] theorem tzeroD_21 : tzeroD Tryd.prog 21 = some (.int .i32 0) := by kernel_rfl
@[simp] theorem tk_22 : tk Tryd.prog 22 = .slice 31 := by kernel_rfl
@[simp] theorem tsz_22 : tsz Tryd.prog 22 = some 1 := by kernel_rfl
@[simp] theorem tzero_22 : tzero Tryd.prog 22 = some ([.lit (.slice none 0 0)]) := by kernel_rfl
@[simp] theorem tbytes_22 : tbytes Tryd.prog 22 = some 24 := by kernel_rfl
@[simp] theorem tzeroD_22 : tzeroD Tryd.prog 22 = some (.list []) := by kernel_rfl
@[simp] theorem srcTy_22 : srcTy Tryd.prog 22 = true := by kernel_rfl
@[simp] theorem tk_23 : tk Tryd.prog 23 = .struct := by kernel_rfl
@[simp] theorem tsz_23 : tsz Tryd.prog 23 = some 3 := by kernel_rfl
@[simp] theorem tzero_23 : tzero Tryd.prog 23 = some ([.lit (.slice none 0 0), .d (.int .i64 0), .d (.int .i64 0)]) := by kernel_rfl
@[simp] theorem tbytes_23 : tbytes Tryd.prog 23 = some 40 := by kernel_rfl
@[simp] theorem tzeroD_23 : tzeroD Tryd.prog 23 = some (.agg ([.list [], .int .i64 0, .int .i64 0])) := by kernel_rfl
@[simp] theorem foff_23_0 : foff Tryd.prog 23 0 = some 0 := by kernel_rfl
@[simp] theorem foff_23_1 : foff Tryd.prog 23 1 = some 1 := by kernel_rfl
@[simp] theorem foff_23_2 : foff Tryd.prog 23 2 = some 2 := by kernel_rfl
@[simp] theorem fplace_23 : fplace Tryd.prog 23 = some [(0, 1), (1, 1), (2, 1)] := by kernel_rfl
@[simp] theorem tk_24 : tk Tryd.prog 24 = .struct := by kernel_rfl
@[simp] theorem tsz_24 : tsz Tryd.prog 24 = some 3 := by kernel_rfl
@[simp] theorem tzero_24 : tzero Tryd.prog 24 = some ([.lit (.slice none 0 0), .d (.int .i64 0), .d (.int .i64 0)]) := by kernel_rfl
@[simp] theorem tbytes_24 : tbytes Tryd.prog 24 = some 40 := by kernel_rfl
@[simp] theorem tzeroD_24 : tzeroD Tryd.prog 24 = some (.agg ([.list [], .int .i64 0, .int .i64 0])) := by kernel_rfl
@[simp] theorem foff_24_0 : foff Tryd.prog 24 0 = some 0 := by kernel_rfl
@[simp] theorem foff_24_1 : foff Tryd.prog 24 1 = some 1 := by kernel_rfl
@[simp] theorem foff_24_2 : foff Tryd.prog 24 2 = some 2 := by kernel_rfl
@[simp] theorem fplace_24 : fplace Tryd.prog 24 = some [(0, 1), (1, 1), (2, 1)] := by kernel_rfl
@[simp] theorem tk_25 : tk Tryd.prog 25 = .func := by kernel_rfl
@[simp] theorem tsz_25 : tsz Tryd.prog 25 = some 1 := by kernel_rfl
@[simp] theorem tk_26 : tk Tryd.prog 26 = .int .i64 := by kernel_rfl
@[simp] theorem tsz_26 : tsz Tryd.prog 26 = some 1 := by kernel_rfl
@[simp] theorem tzero_26 : tzero Tryd.prog 26 = some ([.d (.int .i64 0)]) := by kernel_rfl
@[simp] theorem tbytes_26 : tbytes Tryd.prog 26 = some 8 := by kernel_rfl
@[simp] theorem tzeroD_26 : tzeroD Tryd.prog 26 = some (.int .i64 0) := by kernel_rfl
@[simp] theorem tk_28 : tk Tryd.prog 28 = .func := by kernel_rfl
@[simp] theorem tsz_28 : tsz Tryd.prog 28 = some 1 := by kernel_rfl
@[simp] theorem tk_29 : tk Tryd.prog 29 = .slice 4 := by kernel_rfl
@[simp] theorem tsz_29 : tsz Tryd.prog 29 = some 1 := by kernel_rfl
@[simp] theorem tzero_29 : tzero Tryd.prog 29 = some ([.lit (.slice none 0 0)]) := by kernel_rfl
@[simp] theorem tbytes_29 : tbytes Tryd.prog 29 = some 24 := by kernel_rfl
@[simp] theorem tzeroD_29 : tzeroD Tryd.prog 29 = some (.list []) := by kernel_rfl
@[simp] theorem srcTy_29 : srcTy Tryd.prog 29 = true := by kernel_rfl
@[simp] theorem tk_30 : tk Tryd.prog 30 = .struct := by kernel_rfl
@[simp] theorem tsz_30 : tsz Tryd.prog 30 = some 5 := by kernel_rfl
@[simp] theorem tzero_30 : tzero Tryd.prog 30 = some ([.d (.int .i64 0), .d (.int .i64 0), .d (.int .i64 0), .d (.int .i64 0), .d (.int .i64 0)]) := by kernel_rfl
@[simp] theorem tbytes_30 : tbytes Tryd.prog 30 = some 40 := by kernel_rfl
@[simp] theorem tzeroD_30 : tzeroD Tryd.prog 30 = some (.agg ([.int .i64 0, .int .i64 0, .int .i64 0, .int .i64 0, .int .i64 0])) := by kernel_rfl
@[simp] theorem foff_30_0 : foff Tryd.prog 30 0 = some 0 := by kernel_rfl
@[simp] theorem foff_30_1 : foff Tryd.prog 30 1 = some 1 := by kernel_rfl
@[simp] theorem foff_30_2 : foff Tryd.prog 30 2 = some 2 := by kernel_rfl
@[simp] theorem foff_30_3 : foff Tryd.prog 30 3 = some 3 := by kernel_rfl
@[simp] theorem foff_30_4 : foff Tryd.prog 30 4 = some 4 := by kernel_rfl
@[simp] theorem fplace_30 : fplace Tryd.prog 30 = some [(0, 1), (1, 1), (2, 1), (3, 1), (4, 1)] := by kernel_rfl
@[simp] theorem flat_30 : flatStruct Tryd.prog 30 = some [.int .i64, .int .i64, .int .i64, .int .i64, .int .i64] := by kernel_rfl
@[simp] theorem tk_31 : tk Tryd.prog 31 = .struct := by kernel_rfl
@[simp] theorem tsz_31 : tsz Tryd.prog 31 = some 5 := by kernel_rfl
@[simp] theorem tzero_31 : tzero Tryd.prog 31 = some ([.d (.int .i64 0), .d (.int .i64 0), .d (.int .i64 0), .d (.int .i64 0), .d (.int .i64 0)]) := by kernel_rfl
@[simp] theorem tbytes_31 : tbytes Tryd.prog 31 = some 40 := by kernel_rfl
@[simp] theorem tzeroD_31 : tzeroD Tryd.prog 31 = some (.agg ([.int .i64 0, .int .i64 0, .int .i64 0, .int .i64 0, .int .i64 0])) := by kernel_rfl
@[simp] theorem foff_31_0 : foff Tryd.prog 31 0 = some 0 := by kernel_rfl
@[simp] theorem foff_31_1 : foff Tryd.prog 31 1 = some 1 := by kernel_rfl
@[simp] theorem foff_31_2 : foff Tryd.prog 31 2 = some 2 := by kernel_rfl
@[simp] theorem foff_31_3 : foff Tryd.prog 31 3 = some 3 := by kernel_rfl
@[simp] theorem foff_31_4 : foff Tryd.prog 31 4 = some 4 := by kernel_rfl
@[simp] theorem fplace_31 : fplace Tryd.prog 31 = some [(0, 1), (1, 1), (2, 1), (3, 1), (4, 1)] := by kernel_rfl
@[simp] theorem flat_31 : flatStruct Tryd.prog 31 = some [.int .i64, .int .i64, .int .i64, .int .i64, .int .i64] := by kernel_rfl
@[simp] theorem tk_32 : tk Tryd.prog 32 = .func := by kernel_rfl
@[simp] theorem tsz_32 : tsz Tryd.prog 32 = some 1 := by kernel_rfl
@[simp] theorem tk_33 : tk Tryd.prog 33 = .func := by kernel_rfl
@[simp] theorem tsz_33 : tsz Tryd.prog 33 = some 1 := by kernel_rfl
@[simp] theorem tk_34 : tk Tryd.prog 34 = .slice 2 := by kernel_rfl
@[simp] theorem tsz_34 : tsz Tryd.prog 34 = some 1 := by kernel_rfl
@[simp] theorem tzero_34 : tzero Tryd.prog 34 = some ([.lit (.slice none 0 0)]) := by kernel_rfl
@[simp] theorem tbytes_34 : tbytes Tryd.prog 34 = some 24 := by kernel_rfl
@[simp] theorem tzeroD_34 : tzeroD Tryd.prog 34 = some (.list []) := by kernel_rfl
@[simp] theorem srcTy_34 : srcTy Tryd.prog 34 = true := by kernel_rfl
@[simp] theorem tk_35 : tk Tryd.prog 35 = .struct := by kernel_rfl
@[simp] theorem tsz_35 : tsz Tryd.prog 35 = some 3 := by kernel_rfl
@[simp] theorem tzero_35 : tzero Tryd.prog 35 = some ([.lit (.slice none 0 0), .d (.int .i64 0), .d (.int .i64 0)]) := by kernel_rfl
@[simp] theorem tbytes_35 : tbytes Tryd.prog 35 = some 40 := by kernel_rfl
@[simp] theorem tzeroD_35 : tzeroD Tryd.prog 35 = some (.agg ([.list [], .int .i64 0, .int .i64 0])) := by kernel_rfl
@[simp] theorem foff_35_0 : foff Tryd.prog 35 0 = some 0 := by kernel_rfl
@[simp] theorem foff_35_1 : foff Tryd.prog 35 1 = some 1 := by kernel_rfl
@[simp] theorem foff_35_2 : foff Tryd.prog 35 2 = some 2 := by kernel_rfl
@[simp] theorem fplace_35 : fplace Tryd.prog 35 = some [(0, 1), (1, 1), (2, 1)] := by kernel_rfl
@[simp] theorem tk_36 : tk Tryd.prog 36 = .struct := by kernel_rfl
@[simp] theorem tsz_36 : tsz Tryd.prog 36 = some 3 := by kernel_rfl
@[simp] theorem tzero_36 : tzero Tryd.prog 36 = some ([.lit (.slice none 0 0), .d (.int .i64 0), .d (.int .i64 0)]) := by kernel_rfl
@[simp] theorem tbytes_36 : tbytes Tryd.prog 36 = some 40 := by kernel_rfl
@[simp] theorem tzeroD_36 : tzeroD Tryd.prog 36 = some (.agg ([.list [], .int .i64 0, .int .i64 0])) := by kernel_rfl
@[simp] theorem foff_36_0 : foff Tryd.prog 36 0 = some 0 := by kernel_rfl
@[simp] theorem foff_36_1 : foff Tryd.prog 36 1 = some 1 := by kernel_rfl
@[simp] theorem foff_36_2 : foff Tryd.prog 36 2 = some 2 := by kernel_rfl
@[simp] theorem fplace_36 : fplace Tryd.prog 36 = some [(0, 1), (1, 1), (2, 1)] := by kernel_rfl
@[simp] theorem tk_37 : tk Tryd.prog 37 = .func := by kernel_rfl
@[simp] theorem tsz_37 : tsz Tryd.prog 37 = some 1 := by kernel_rfl
@[simp] theorem tk_38 : tk Tryd.prog 38 = .func := by kernel_rfl
@[simp] theorem tsz_38 : tsz Tryd.prog 38 = some 1 := by kernel_rfl
@[simp] theorem tk_39 : tk Tryd.prog 39 = .func := by kernel_rfl
@[simp] theorem tsz_39 : tsz Tryd.prog 39 = some 1 := by kernel_rfl
@[simp] theorem tk_40 : tk Tryd.prog 40 = .func := by kernel_rfl
@[simp] theorem tsz_40 : tsz Tryd.prog 40 = some 1 := by kernel_rfl
@[simp] theorem tk_41 : tk Tryd.prog 41 = .func := by kernel_rfl
@[simp] theorem tsz_41 : tsz Tryd.prog 41 = some 1 := by kernel_rfl
@[simp] theorem tk_43 : tk Tryd.prog 43 = .func := by kernel_rfl
@[simp] theorem tsz_43 : tsz Tryd.prog 43 = some 1 := by kernel_rfl
@[simp] theorem tk_44 : tk Tryd.prog 44 = .func := by kernel_rfl
@[simp] theorem tsz_44 : tsz Tryd.prog 44 = some 1 := by kernel_rfl
@[simp] theorem tk_45 : tk Tryd.prog 45 = .ptr 48 := by kernel_rfl
@[simp] theorem tsz_45 : tsz Tryd.prog 45 = some 1 := by kernel_rfl
@[simp] theorem tk_46 : tk Tryd.prog 46 = .arr 64 2 := by kernel_rfl
@[simp] theorem tsz_46 : tsz Tryd.prog 46 = some 64 := by kernel_rfl
@[simp] theorem tzero_46 : tzero Tryd.prog 46 = some (List.replicate 64 (.d (.int .i64 0))) := by kernel_rfl
@[simp] theorem tbytes_46 : tbytes Tryd.prog 46 = some 512 := by kernel_rfl
@[simp] theorem tzeroD_46 : tzeroD Tryd.prog 46 = some (.agg (List.replicate 64 (.int .i64 0))) := by kernel_rfl
@[simp] theorem fplace_46 : fplace Tryd.prog 46 = none := by kernel_rfl
@[simp] theorem tk_47 : tk Tryd.prog 47 = .struct := by kernel_rfl
@[simp] theorem tsz_47 : tsz Tryd.prog 47 = some 72 := by kernel_rfl
@[simp] theorem tzero_47 : tzero Tryd.prog 47 = some ([.lit (.slice none 0 0), .d (.int .i64 0), .d (.int .i64 0), .lit (.slice none 0 0), .d (.int .i64 0), .d (.int .i64 0), .d (.int .i64 0), .d (.int .i64 0), .d (.int .i64 0), .d (.int .i64 0), .d (.int .i64 0), .d (.int .i64 0), .d (.int .i64 0), .d (.int .i64 0), .d (.int .i64 0), .d (.int .i64 0), .d (.int .i64 0), .d (.int .i64 0), .d (.int .i64 0), .d (.int .i64 0), .d (.int .i64 0), .d (.int .i64 0), .d (.int .i64 0), .d (.int .i64 0), .d (.int .i64 0), .d (.int .i64 0), .d (.int .i64 0), .d (.int .i64 0), .d (.int .i64 0), .d (.int .i64 0), .d (.int .i64 0), .d (.int .i64 0), .d (.int .i64 0), .d (.int .i64 0), .d (.int .i64 0), .d (.int .i64 0), .d (.int .i64 0), .d (.int .i64 0), .d (.int .i64 0), .d (.int .i64 0), .d (.int .i64 0), .d (.int .i64 0), .d (.int .i64 0), .d (.int .i64 0), .d (.int .i64 0), .d (.int .i64 0), .d (.int .i64 0), .d (.int .i64 0), .d (.int .i64 0), .d (.int .i64 0), .d (.int .i64 0), .d (.int .i64 0), .d (.int .i64 0), .d (.int .i64 0), .d (.int .i64 0), .d (.int .i64 0), .d (.int .i64 0), .d (.int .i64 0), .d (.int .i64 0), .d (.int .i64 0), .d (.int .i64 0), .d (.int .i64 0), .d (.int .i64 0), .d (.int .i64 0), .d (.int .i64 0), .d (.int .i64 0), .d (.int .i64 0), .d (.int .i64 0), .d (.int .i64 0), .d (.int .i64 0), .d (.int .i64 0), .d (.int .i64 0)]) := by kernel_rfl
@[simp] theorem tbytes_47 : tbytes Tryd.prog 47 = some 608 := by kernel_rfl
@[simp] theorem tzeroD_47 : tzeroD Tryd.prog 47 = some (.agg ([.list [], .int .i64 0, .int .i64 0, .list [], .int .i64 0, .int .i64 0, .int .i64 0, .int .i64 0, .int .i64 0, .int .i64 0, .int .i64 0, .int .i64 0, .int .i64 0, .int .i64 0, .int .i64 0, .int .i64 0, .int .i64 0, .int .i64 0, .int .i64 0, .int .i64 0, .int .i64 0, .int .i64 0, .int .i64 0, .int .i64 0, .int .i64 0, .int .i64 0, .int .i64 0, .int .i64 0, .int .i64 0, .int .i64 0, .int .i64 0, .int .i64 0, .int .i64 0, .int .i64 0, .int .i64 0, .int .i64 0, .int .i64 0, .int .i64 0, .int .i64 0, .int .i64 0, .int .i64 0, .int .i64 0, .int .i64 0, .int .i64 0, .int .i64 0, .int .i64 0, .int .i64 0, .int .i64 0, .int .i64 0, .int .i64 0, .int .i64 0, .int .i64 0, .int .i64 0, .int .i64 0, .int .i64 0, .int .i64 0, .int .i64 0, .int .i64 0, .int .i64 0, .int .i64 0, .int .i64 0, .int .i64 0, .int .i64 0, .int .i64 0, .int .i64 0, .int .i64 0, .int .i64 0, .int .i64 0, .int .i64 0, .int .i64 0, .int .i64 0, .int .i64 0])) := by kernel_rfl
@[simp] theorem foff_47_0 : foff Tryd.prog 47 0 = some 0 := by kernel_rfl
@[simp] theorem foff_47_1 : foff Tryd.prog 47 1 = some 3 := by kernel_rfl
@[simp] theorem foff_47_2 : foff Tryd.prog 47 2 = some 4 := by kernel_rfl
@[simp] theorem foff_47_3 : foff Tryd.prog 47 3 = some 68 := by kernel_rfl
@[simp] theorem foff_47_4 : foff Tryd.prog 47 4 = some 69 := by kernel_rfl
@[simp] theorem foff_47_5 : foff Tryd.prog 47 5 = some 70 := by kernel_rfl
@[simp] theorem foff_47_6 : foff Tryd.prog 47 6 = some 71 := by kernel_rfl
@[simp] theorem fplace_47 : fplace Tryd.prog 47 = some [(0, 3), (3, 1), (4, 64), (68, 1), (69, 1), (70, 1), (71, 1)] := by kernel_rfl
@[simp] theorem tk_48 : tk Tryd.prog 48 = .struct := by kernel_rfl
@[simp] theorem tsz_48 : tsz Tryd.prog 48 = some 72 := by kernel_rfl
@[simp] theorem tzero_48 : tzero Tryd.prog 48 = some ([.lit (.slice none 0 0), .d (.int .i64 0), .d (.int .i64 0), .lit (.slice none 0 0), .d (.int .i64 0), .d (.int .i64 0), .d (.int .i64 0), .d (.int .i64 0), .d (.int .i64 0), .d (.int .i64 0), .d (.int .i64 0), .d (.int .i64 0), .d (.int .i64 0), .d (.int .i64 0), .d (.int .i64 0), .d (.int .i64 0), .d (.int .i64 0), .d (.int .i64 0), .d (.int .i64 0), .d (.int .i64 0), .d (.int .i64 0), .d (.int .i64 0), .d (.int .i64 0), .d (.int .i64 0), .d (.int .i64 0), .d (.int .i64 0), .d (.int .i64 0), .d (.int .i64 0), .d (.int .i64 0), .d (.int .i64 0), .d (.int .i64 0), .d (.int .i64 0), .d (.int .i64 0), .d (.int .i64 0), .d (.int .i64 0), .d (.int .i64 0), .d (.int .i64 0), .d (.int .i64 0), .d (.int .i64 0), .d (.int .i64 0), .d (.int .i64 0), .d (.int .i64 0), .d (.int .i64 0), .d (.int .i64 0), .d (.int .i64 0), .d (.int .i64 0), .d (.int .i64 0), .d (.int .i64 0), .d (.int .i64 0), .d (.int .i64 0), .d (.int .i64 0), .d (.int .i64 0), .d (.int .i64 0), .d (.int .i64 0), .d (.int .i64 0), .d (.int .i64 0), .d (.int .i64 0), .d (.int .i64 0), .d (.int .i64 0), .d (.int .i64 0), .d (.int .i64 0), .d (.int .i64 0), .d (.int .i64 0), .d (.int .i64 0), .d (.int .i64 0), .d (.int .i64 0), .d (.int .i64 0), .d (.int .i64 0), .d (.int .i64 0), .d (.int .i64 0), .d (.int .i64 0), .d (.int .i64 0)]) := by kernel_rfl
@[simp] theorem tbytes_48 : tbytes Tryd.prog 48 = some 608 := by kernel_rfl
@[simp] theorem tzeroD_48 : tzeroD Tryd.prog 48 = some (.agg ([.list [], .int .i64 0, .int .i64 0, .list [], .int .i64 0, .int .i64 0, .int .i64 0, .int .i64 0, .int .i64 0, .int .i64 0, .int .i64 0, .int .i64 0, .int .i64 0, .int .i64 0, .int .i64 0, .int .i64 0, .int .i64 0, .int .i64 0, .int .i64 0, .int .i64 0, .int .i64 0, .int .i64 0, .int .i64 0, .int .i64 0, .int .i64 0, .int .i64 0, .int .i64 0, .int .i64 0, .int .i64 0, .int .i64 0, .int .i64 0, .int .i64 0, .int .i64 0, .int .i64 0, .int .i64 0, .int .i64 0, .int .i64 0, .int .i64 0, .int .i64 0, .int .i64 0, .int .i64 0, .int .i64 0, .int .i64 0, .int .i64 0, .int .i64 0, .int .i64 0, .int .i64 0, .int .i64 0, .int .i64 0, .int .i64 0, .int .i64 0, .int .i64 0, .int .i64 0, .int .i64 0, .int .i64 0, .int .i64 0, .int .i64 0, .int .i64 0, .int .i64 0, .int .i64 0, .int .i64 0, .int .i64 0, .int .i64 0, .int .i64 0, .int .i64 0, .int .i64 0, .int .i64 0, .int .i64 0, .int .i64 0, .int .i64 0, .int .i64 0, .int .i64 0])) := by kernel_rfl
@[simp] theorem foff_48_0 : foff Tryd.prog 48 0 = some 0 := by kernel_rfl
@[simp] theorem foff_48_1 : foff Tryd.prog 48 1 = some 3 := by kernel_rfl
@[simp] theorem foff_48_2 : foff Tryd.prog 48 2 = some 4 := by kernel_rfl
@[simp] theorem foff_48_3 : foff Tryd.prog 48 3 = some 68 := by kernel_rfl
@[simp] theorem foff_48_4 : foff Tryd.prog 48 4 = some 69 := by kernel_rfl
@[simp] theorem foff_48_5 : foff Tryd.prog 48 5 = some 70 := by kernel_rfl
@[simp] theorem foff_48_6 : foff Tryd.prog 48 6 = some 71 := by kernel_rfl
@[simp] theorem fplace_48 : fplace Tryd.prog 48 = some [(0, 3), (3, 1), (4, 64), (68, 1), (69, 1), (70, 1), (71, 1)] := by kernel_rfl
@[simp] theorem tk_49 : tk Tryd.prog 49 = .func := by kernel_rfl
@[simp] theorem tsz_49 : tsz Tryd.prog 49 = some 1 := by kernel_rfl
@[simp] theorem tk_50 : tk Tryd.prog 50 = .func := by kernel_rfl
@[simp] theorem tsz_50 : tsz Tryd.prog 50 = some 1 := by kernel_rfl
@[simp] theorem tk_51 : tk Tryd.prog 51 = .func := by kernel_rfl
@[simp] theorem tsz_51 : tsz Tryd.prog 51 = some 1 := by kernel_rfl
@[simp] theorem tk_52 : tk Tryd.prog 52 = .func := by kernel_rfl
@[simp] theorem tsz_52 : tsz Tryd.prog 52 = some 1 := by kernel_rfl
@[simp] theorem tk_53 : tk Tryd.prog 53 = .arr 70 4 := by kernel_rfl
@[simp] theorem tsz_53 : tsz Tryd.prog 53 = some 70 := by kernel_rfl
@[simp] theorem tzero_53 : tzero Tryd.prog 53 = some (List.replicate 70 (.d (.bool false))) := by kernel_rfl
@[simp] theorem tbytes_53 : tbytes Tryd.prog 53 = some 70 := by kernel_rfl
@[simp] theorem tzeroD_53 : tzeroD Tryd.prog 53 = some (.agg (List.replicate 70 (.bool false))) := by kernel_rfl
@[simp] theorem fplace_53 : fplace Tryd.prog 53 = none := by kernel_rfl
@[simp] theorem tk_55 : tk Tryd.prog 55 = .func := by kernel_rfl
@[simp] theorem tsz_55 : tsz Tryd.prog 55 = some 1 := by kernel_rfl
@[simp] theorem tk_56 : tk Tryd.prog 56 = .ptr 58 := by kernel_rfl
@[simp] theorem tsz_56 : tsz Tryd.prog 56 = some 1 := by kernel_rfl
@[simp] theorem tk_57 : tk Tryd.prog 57 = .struct := by kernel_rfl
@[simp] theorem tsz_57 : tsz Tryd.prog 57 = some 5 := by kernel_rfl
@[simp] theorem tzero_57 : tzero Tryd.prog 57 = some ([.lit (.slice none 0 0), .lit (.slice none 0 0), .d (.int .i64 0), .d (.int .i64 0), .d (.int .i64 0)]) := by kernel_rfl
@[simp] theorem tbytes_57 : tbytes Tryd.prog 57 = some 72 := by kernel_rfl
@[simp] theorem tzeroD_57 : tzeroD Tryd.prog 57 = some (.agg ([.list [], .list [], .int .i64 0, .int .i64 0, .int .i64 0])) := by kernel_rfl
@[simp] theorem foff_57_0 : foff Tryd.prog 57 0 = some 0 := by kernel_rfl
@[simp] theorem foff_57_1 : foff Tryd.prog 57 1 = some 1 := by kernel_rfl
@[simp] theorem foff_57_2 : foff Tryd.prog 57 2 = some 2 := by kernel_rfl
@[simp] theorem foff_57_3 : foff Tryd.prog 57 3 = some 3 := by kernel_rfl
@[simp] theorem foff_57_4 : foff Tryd.prog 57 4 = some 4 := by kernel_rfl
@[simp] theorem fplace_57 : fplace Tryd.prog 57 = some [(0, 1), (1, 1), (2, 1), (3, 1), (4, 1)] := by kernel_rfl
@[simp] theorem tk_58 : tk Tryd.prog 58 = .struct := by kernel_rfl
@[simp] theorem tsz_58 : tsz Tryd.prog 58 = some 5 := by kernel_rfl
@[simp] theorem tzero_58 : tzero Tryd.prog 58 = some ([.lit (.slice none 0 0), .lit (.slice none 0 0), .d (.int .i64 0), .d (.int .i64 0), .d (.int .i64 0)]) := by kernel_rfl
@[simp] theorem tbytes_58 : tbytes Tryd.prog 58 = some 72 := by kernel_rfl
@[simp] theorem tzeroD_58 : tzeroD Tryd.prog 58 = some (.agg ([.list [], .list [], .int .i64 0, .int .i64 0, .int .i64 0])) := by kernel_rfl
@[simp] theorem foff_58_0 : foff Tryd.prog 58 0 = some 0 := by kernel_rfl
@[simp] theorem foff_58_1 : foff Tryd.prog 58 1 = some 1 := by kernel_rfl
@[simp] theorem foff_58_2 : foff Tryd.prog 58 2 = some 2 := by kernel_rfl
@[simp] theorem foff_58_3 : foff Tryd.prog 58 3 = some 3 := by kernel_rfl
@[simp] theorem foff_58_4 : foff Tryd.prog 58 4 = some 4 := by kernel_rfl
@[simp] theorem fplace_58 : fplace Tryd.prog 58 = some [(0, 1), (1, 1), (2, 1), (3, 1), (4, 1)] := by kernel_rfl
@[simp] theorem tk_59 : tk Tryd.prog 59 = .ptr 61 := by kernel_rfl
@[simp] theorem tsz_59 : tsz Tryd.prog 59 = some 1 := by kernel_rfl
@[simp] theorem tk_60 : tk Tryd.prog 60 = .struct := by kernel_rfl
@[simp] theorem tsz_60 : tsz Tryd.prog 60 = some 5 := by kernel_rfl
@[simp] theorem tzero_60 : tzero Tryd.prog 60 = some ([.lit (.slice none 0 0), .d (.int .i64 0), .d (.int .i64 0), .lit (.slice none 0 0), .lit (.slice none 0 0)]) := by kernel_rfl
@[simp] theorem tbytes_60 : tbytes Tryd.prog 60 = some 88 := by kernel_rfl
@[simp] theorem tzeroD_60 : tzeroD Tryd.prog 60 = some (.agg ([.list [], .int .i64 0, .int .i64 0, .list [], .list []])) := by kernel_rfl
@[simp] theorem foff_60_0 : foff Tryd.prog 60 0 = some 0 := by kernel_rfl
@[simp] theorem foff_60_1 : foff Tryd.prog 60 1 = some 3 := by kernel_rfl
@[simp] theorem foff_60_2 : foff Tryd.prog 60 2 = some 4 := by kernel_rfl
@[simp] theorem fplace_60 : fplace Tryd.prog 60 = some [(0, 3), (3, 1), (4, 1)] := by kernel_rfl
@[simp] theorem tk_61 : tk Tryd.prog 61 = .struct := by kernel_rfl
@[simp] theorem tsz_61 : tsz Tryd.prog 61 = some 5 := by kernel_rfl
@[simp] theorem tzero_61 : tzero Tryd.prog 61 = some ([.lit (.slice none 0 0), .d (.int .i64 0), .d (.int .i64 0), .lit (.slice none 0 0), .lit (.slice none 0 0)]) := by kernel_rfl
@[simp] theorem tbytes_61 : tbytes Tryd.prog 61 = some 88 := by kernel_rfl
@[simp] theorem tzeroD_61 : tzeroD Tryd.prog 61 = some (.agg ([.list [], .int .i64 0, .int .i64 0, .list [], .list []])) := by kernel_rfl
@[simp] theorem foff_61_0 : foff Tryd.prog 61 0 = some 0 := by kernel_rfl
@[simp] theorem foff_61_1 : foff Tryd.prog 61 1 = some 3 := by kernel_rfl
@[simp] theorem foff_61_2 : foff Tryd.prog 61 2 = some 4 := by kernel_rfl
@[simp] theorem fplace_61 : fplace Tryd.prog 61 = some [(0, 3), (3, 1), (4, 1)] := by kernel_rfl
@[simp] theorem tk_62 : tk Tryd.prog 62 = .func := by kernel_rfl
@[simp] theorem tsz_62 : tsz Tryd.prog 62 = some 1 := by kernel_rfl
@[simp] theorem tk_63 : tk Tryd.prog 63 = .func := by kernel_rfl
@[simp] theorem tsz_63 : tsz Tryd.prog 63 = some 1 := by kernel_rfl
@[simp] theorem tk_64 : tk Tryd.prog 64 = .func := by kernel_rfl
@[simp] theorem tsz_64 : tsz Tryd.prog 64 = some 1 := by kernel_rfl
@[simp] theorem tk_65 : tk Tryd.prog 65 = .func := by kernel_rfl
@[simp] theorem tsz_65 : tsz Tryd.prog 65 = some 1 := by kernel_rfl
@[simp] theorem tk_66 : tk Tryd.prog 66 = .func := by kernel_rfl
@[simp] theorem tsz_66 : tsz Tryd.prog 66 = some 1 := by kernel_rfl
@[simp] theorem tk_67 : tk Tryd.prog 67 = .func := by kernel_rfl
@[simp] theorem tsz_67 : tsz Tryd.prog 67 = some 1 := by kernel_rfl
@[simp] theorem tk_68 : tk Tryd.prog 68 = .func := by kernel_rfl
@[simp] theorem tsz_68 : tsz Tryd.prog 68 = some 1 := by kernel_rfl
@[simp] theorem tk_70 : tk Tryd.prog 70 = .func := by kernel_rfl
@[simp] theorem tsz_70 : tsz Tryd.prog 70 = some 1 := by kernel_rfl
@[simp] theorem tk_71 : tk Tryd.prog 71 = .func := by kernel_rfl
@[simp] theorem tsz_71 : tsz Tryd.prog 71 = some 1 := by kernel_rfl
@[simp] theorem tk_72 : tk Tryd.prog 72 = .slice 89 := by kernel_rfl
@[simp] theorem tsz_72 : tsz Tryd.prog 72 = some 1 := by kernel_rfl
@[simp] theorem tzero_72 : tzero Tryd.prog 72 = some ([.lit (.slice none 0 0)]) := by kernel_rfl
@[simp] theorem tbytes_72 : tbytes Tryd.prog 72 = some 24 := by kernel_rfl
@[simp] theorem tzeroD_72 : tzeroD Tryd.prog 72 = some (.list []) := by kernel_rfl
@[simp] theorem srcTy_72 : srcTy Tryd.prog 72 = true := by kernel_rfl
@[simp] theorem tk_73 : tk Tryd.prog 73 = .func := by kernel_rfl
@[simp] theorem tsz_73 : tsz Tryd.prog 73 = some 1 := by kernel_rfl
@[simp] theorem tk_74 : tk Tryd.prog 74 = .func := by kernel_rfl
@[simp] theorem tsz_74 : tsz Tryd.prog 74 = some 1 := by kernel_rfl
@[simp] theorem tk_75 : tk Tryd.prog 75 = .func := by kernel_rfl
@[simp] theorem tsz_75 : tsz Tryd.prog 75 = some 1 := by kernel_rfl
@[simp] theorem tk_76 : tk Tryd.prog 76 = .func := by kernel_rfl
@[simp] theorem tsz_76 : tsz Tryd.prog 76 = some 1 := by kernel_rfl
@[simp] theorem tk_78 : tk Tryd.prog 78 = .func := by kernel_rfl
@[simp] theorem tsz_78 : tsz Tryd.prog 78 = some 1 := by kernel_rfl
@[simp] theorem tk_79 : tk Tryd.prog 79 = .func := by kernel_rfl
@[simp] theorem tsz_79 : tsz Tryd.prog 79 = some 1 := by kernel_rfl
@[simp] theorem tk_80 : tk Tryd.prog 80 = .slice 3 := by kernel_rfl
@[simp] theorem tsz_80 : tsz Tryd.prog 80 = some 1 := by kernel_rfl
@[simp] theorem tzero_80 : tzero Tryd.prog 80 = some ([.lit (.slice none 0 0)]) := by kernel_rfl
@[simp] theorem tbytes_80 : tbytes Tryd.prog 80 = some 24 := by kernel_rfl
@[simp] theorem tzeroD_80 : tzeroD Tryd.prog 80 = some (.list []) := by kernel_rfl
@[simp] theorem srcTy_80 : srcTy Tryd.prog 80 = true := by kernel_rfl
@[simp] theorem tk_81 : tk Tryd.prog 81 = .func := by kernel_rfl
@[simp] theorem tsz_81 : tsz Tryd.prog 81 = some 1 := by kernel_rfl
@[simp] theorem tk_82 : tk Tryd.prog 82 = .func := by kernel_rfl
@[simp] theorem tsz_82 : tsz Tryd.prog 82 = some 1 := by kernel_rfl
@[simp] theorem tk_83 : tk Tryd.prog 83 = .struct := by kernel_rfl
@[simp] theorem tsz_83 : tsz Tryd.prog 83 = some 5 := by kernel_rfl
@[simp] theorem tzero_83 : tzero Tryd.prog 83 = some ([.d (.int .i64 0), .d (.str []), .d (.str []), .d (.str []), .d (.int .i64 0)]) := by kernel_rfl
@[simp] theorem tbytes_83 : tbytes Tryd.prog 83 = some 64 := by kernel_rfl
@[simp] theorem tzeroD_83 : tzeroD Tryd.prog 83 = some (.agg ([.int .i64 0, .str [], .str [], .str [], .int .i64 0])) := by kernel_rfl
@[simp] theorem foff_83_0 : foff Tryd.prog 83 0 = some 0 := by kernel_rfl
@[simp] theorem foff_83_1 : foff Tryd.prog 83 1 = some 1 := by kernel_rfl
@[simp] theorem foff_83_2 : foff Tryd.prog 83 2 = some 2 := by kernel_rfl
@[simp] theorem foff_83_3 : foff Tryd.prog 83 3 = some 3 := by kernel_rfl
@[simp] theorem foff_83_4 : foff Tryd.prog 83 4 = some 4 := by kernel_rfl
@[simp] theorem fplace_83 : fplace Tryd.prog 83 = some [(0, 1), (1, 1), (2, 1), (3, 1), (4, 1)] := by kernel_rfl
@[simp] theorem flat_83 : flatStruct Tryd.prog 83 = some [.int .i64, .str, .str, .str, .int .i64] := by kernel_rfl
@[simp] theorem tk_84 : tk Tryd.prog 84 = .struct := by kernel_rfl
@[simp] theorem tsz_84 : tsz Tryd.prog 84 = some 5 := by kernel_rfl
@[simp] theorem tzero_84 : tzero Tryd.prog 84 = some ([.d (.int .i64 0), .d (.str []), .d (.str []), .d (.str []), .d (.int .i64 0)]) := by kernel_rfl
@[simp] theorem tbytes_84 : tbytes Tryd.prog 84 = some 64 := by kernel_rfl
@[simp] theorem tzeroD_84 : tzeroD Tryd.prog 84 = some (.agg ([.int .i64 0, .str [], .str [], .str [], .int .i64 0])) := by kernel_rfl
@[simp] theorem foff_84_0 : foff Tryd.prog 84 0 = some 0 := by kernel_rfl
@[simp] theorem foff_84_1 : foff Tryd.prog 84 1 = some 1 := by kernel_rfl
@[simp] theorem foff_84_2 : foff Tryd.prog 84 2 = some 2 := by kernel_rfl
@[simp] theorem foff_84_3 : foff Tryd.prog 84 3 = some 3 := by kernel_rfl
@[simp] theorem foff_84_4 : foff Tryd.prog 84 4 = some 4 := by kernel_rfl
@[simp] theorem fplace_84 : fplace Tryd.prog 84 = some [(0, 1), (1, 1), (2, 1), (3, 1), (4, 1)] := by kernel_rfl
@[simp] theorem flat_84 : flatStruct Tryd.prog 84 = some [.int .i64, .str, .str, .str, .int .i64] := by kernel_rfl
@[simp] theorem tk_86 : tk Tryd.prog 86 = .func := by kernel_rfl
@[simp] theorem tsz_86 : tsz Tryd.prog 86 = some 1 := by kernel_rfl
@[simp] theorem tk_87 : tk Tryd.prog 87 = .func := by kernel_rfl
@[simp] theorem tsz_87 : tsz Tryd.prog 87 = some 1 := by kernel_rfl
@[simp] theorem tk_88 : tk Tryd.prog 88 = .struct := by kernel_rfl
@[simp] theorem tsz_88 : tsz Tryd.prog 88 = some 3 := by kernel_rfl
@[simp] theorem tzero_88 : tzero Tryd.prog 88 = some ([.d (.str []), .d (.int .i64 0), .d (.bool false)]) := by kernel_rfl
@[simp] theorem tbytes_88 : tbytes Tryd.prog 88 = some 32 := by kernel_rfl
@[simp] theorem tzeroD_88 : tzeroD Tryd.prog 88 = some (.agg ([.str [], .int .i64 0, .bool false])) := by kernel_rfl
@[simp] theorem foff_88_0 : foff Tryd.prog 88 0 = some 0 := by kernel_rfl
@[simp] theorem foff_88_1 : foff Tryd.prog 88 1 = some 1 := by kernel_rfl
@[simp] theorem foff_88_2 : foff Tryd.prog 88 2 = some 2 := by kernel_rfl
@[simp] theorem fplace_88 : fplace Tryd.prog 88 = some [(0, 1), (1, 1), (2, 1)] := by kernel_rfl
@[simp] theorem flat_88 : flatStruct Tryd.prog 88 = some [.str, .int .i64, .bool] := by kernel_rfl
@[simp] theorem tk_89 : tk Tryd.prog 89 = .struct := by kernel_rfl
@[simp] theorem tsz_89 : tsz Tryd.prog 89 = some 3 := by kernel_rfl
@[simp] theorem tzero_89 : tzero Tryd.prog 89 = some ([.d (.str []), .d (.int .i64 0), .d (.bool false)]) := by kernel_rfl
@[simp] theorem tbytes_89 : tbytes Tryd.prog 89 = some 32 := by kernel_rfl
@[simp] theorem tzeroD_89 : tzeroD Tryd.prog 89 = some (.agg ([.str [], .int .i64 0, .bool false])) := by kernel_rfl
@[simp] theorem foff_89_0 : foff Tryd.prog 89 0 = some 0 := by kernel_rfl
@[simp] theorem foff_89_1 : foff Tryd.prog 89 1 = some 1 := by kernel_rfl
@[simp] theorem foff_89_2 : foff Tryd.prog 89 2 = some 2 := by kernel_rfl
@[simp] theorem fplace_89 : fplace Tryd.prog 89 = some [(0, 1), (1, 1), (2, 1)] := by kernel_rfl
@[simp] theorem flat_89 : flatStruct Tryd.prog 89 = some [.str, .int .i64, .bool] := by kernel_rfl
@[simp] theorem tk_90 : tk Tryd.prog 90 = .func := by kernel_rfl
@[simp] theorem tsz_90 : tsz Tryd.prog 90 = some 1 := by kernel_rfl
@[simp] theorem tk_91 : tk Tryd.prog 91 = .slice 95 := by kernel_rfl
@[simp] theorem tsz_91 : tsz Tryd.prog 91 = some 1 := by kernel_rfl
@[simp] theorem tzero_91 : tzero Tryd.prog 91 = some ([.lit (.slice none 0 0)]) := by kernel_rfl
@[simp] theorem tbytes_91 : tbytes Tryd.prog 91 = some 24 := by kernel_rfl
@[simp] theorem tzeroD_91 : tzeroD Tryd.prog 91 = some (.list []) := by kernel_rfl
@[simp] theorem srcTy_91 : srcTy Tryd.prog 91 = true := by kernel_rfl
@[simp] theorem tk_92 : tk Tryd.prog 92 = .func := by kernel_rfl
@[simp] theorem tsz_92 : tsz Tryd.prog 92 = some 1 := by kernel_rfl
@[simp] theorem tk_93 : tk Tryd.prog 93 = .slice 9 := by kernel_rfl
@[simp] theorem tsz_93 : tsz Tryd.prog 93 = some 1 := by kernel_rfl
@[simp] theorem tzero_93 : tzero Tryd.prog 93 = some ([.lit (.slice none 0 0)]) := by kernel_rfl
@[simp] theorem tbytes_93 : tbytes Tryd.prog 93 = some 24 := by kernel_rfl
@[simp] theorem tzeroD_93 : tzeroD Tryd.prog 93 = some (.list []) := by kernel_rfl
@[simp] theorem srcTy_93 : srcTy Tryd.prog 93 = true := by kernel_rfl
@[simp] theorem tk_94 : tk Tryd.prog 94 = .struct := by kernel_rfl
@[simp] theorem tsz_94 : tsz Tryd.prog 94 = some 4 := by kernel_rfl
@[simp] theorem tzero_94 : tzero Tryd.prog 94 = some ([.d (.int .i64 0), .d (.str []), .d (.str []), .lit (.slice none 0 0)]) := by kernel_rfl
@[simp] theorem tbytes_94 : tbytes Tryd.prog 94 = some 64 := by kernel_rfl
@[simp] theorem tzeroD_94 : tzeroD Tryd.prog 94 = some (.agg ([.int .i64 0, .str [], .str [], .list []])) := by kernel_rfl
@[simp] theorem foff_94_0 : foff Tryd.prog 94 0 = some 0 := by kernel_rfl
@[simp] theorem foff_94_1 : foff Tryd.prog 94 1 = some 1 := by kernel_rfl
@[simp] theorem foff_94_2 : foff Tryd.prog 94 2 = some 2 := by kernel_rfl
@[simp] theorem foff_94_3 : foff Tryd.prog 94 3 = some 3 := by kernel_rfl
@[simp] theorem fplace_94 : fplace Tryd.prog 94 = some [(0, 1), (1, 1), (2, 1), (3, 1)] := by kernel_rfl
@[simp] theorem tk_95 : tk Tryd.prog 95 = .struct := by kernel_rfl
@[simp] theorem tsz_95 : tsz Tryd.prog 95 = some 4 := by kernel_rfl
@[simp] theorem tzero_95 : tzero Tryd.prog 95 = some ([.d (.int .i64 0), .d (.str []), .d (.str []), .lit (.slice none 0 0)]) := by kernel_rfl
@[simp] theorem tbytes_95 : tbytes Tryd.prog 95 = some 64 := by kernel_rfl
@[simp] theorem tzeroD_95 : tzeroD Tryd.prog 95 = some (.agg ([.int .i64 0, .str [], .str [], .list []])) := by kernel_rfl
@[simp] theorem foff_95_0 : foff Tryd.prog 95 0 = some 0 := by kernel_rfl
@[simp] theorem foff_95_1 : foff Tryd.prog 95 1 = some 1 := by kernel_rfl
@[simp] theorem foff_95_2 : foff Tryd.prog 95 2 = some 2 := by kernel_rfl
@[simp] theorem foff_95_3 : foff Tryd.prog 95 3 = some 3 := by kernel_rfl
@[simp] theorem fplace_95 : fplace Tryd.prog 95 = some [(0, 1), (1, 1), (2, 1), (3, 1)] := by kernel_rfl
@[simp] theorem tk_97 : tk Tryd.prog 97 = .func := by kernel_rfl
@[simp] theorem tsz_97 : tsz Tryd.prog 97 = some 1 := by kernel_rfl
@[simp] theorem tk_98 : tk Tryd.prog 98 = .arr 6 4 := by kernel_rfl
@[simp] theorem tsz_98 : tsz Tryd.prog 98 = some 6 := by kernel_rfl
@[simp] theorem tzero_98 : tzero Tryd.prog 98 = some ([.d (.bool false), .d (.bool false), .d (.bool false), .d (.bool false), .d (.bool false), .d (.bool false)]) := by kernel_rfl
@[simp] theorem tbytes_98 : tbytes Tryd.prog 98 = some 6 := by kernel_rfl
@[simp] theorem tzeroD_98 : tzeroD Tryd.prog 98 = some (.agg ([.bool false, .bool false, .bool false, .bool false, .bool false, .bool false])) := by kernel_rfl
@[simp] theorem fplace_98 : fplace Tryd.prog 98 = none := by kernel_rfl
@[simp] theorem tk_100 : tk Tryd.prog 100 = .func := by kernel_rfl
@[simp] theorem tsz_100 : tsz Tryd.prog 100 = some 1 := by kernel_rfl
@[simp] theorem tk_101 : tk Tryd.prog 101 = .func := by kernel_rfl
@[simp] theorem tsz_101 : tsz Tryd.prog 101 = some 1 := by kernel_rfl
@[simp] theorem tk_102 : tk Tryd.prog 102 = .func := by kernel_rfl
@[simp] theorem tsz_102 : tsz Tryd.prog 102 = some 1 := by kernel_rfl
@[simp] theorem tk_103 : tk Tryd.prog 103 = .func := by kernel_rfl
@[simp] theorem tsz_103 : tsz Tryd.prog 103 = some 1 := by kernel_rfl
@[simp] theorem tk_104 : tk Tryd.prog 104 = .func := by kernel_rfl
@[simp] theorem tsz_104 : tsz Tryd.prog 104 = some 1 := by kernel_rfl
@[simp] theorem tk_105 : tk Tryd.prog 105 = .func := by kernel_rfl
@[simp] theorem tsz_105 : tsz Tryd.prog 105 = some 1 := by kernel_rfl
@[simp] theorem tk_106 : tk Tryd.prog 106 = .func := by kernel_rfl
@[simp] theorem tsz_106 : tsz Tryd.prog 106 = some 1 := by kernel_rfl
@[simp] theorem tk_107 : tk Tryd.prog 107 = .func := by kernel_rfl
@[simp] theorem tsz_107 : tsz Tryd.prog 107 = some 1 := by kernel_rfl
@[simp] theorem tk_108 : tk Tryd.prog 108 = .slice 84 := by kernel_rfl
@[simp] theorem tsz_108 : tsz Tryd.prog 108 = some 1 := by kernel_rfl
@[simp] theorem tzero_108 : tzero Tryd.prog 108 = some ([.lit (.slice none 0 0)]) := by kernel_rfl
@[simp] theorem tbytes_108 : tbytes Tryd.prog 108 = some 24 := by kernel_rfl
@[simp] theorem tzeroD_108 : tzeroD Tryd.prog 108 = some (.list []) := by kernel_rfl
@[simp] theorem srcTy_108 : srcTy Tryd.prog 108 = true := by kernel_rfl
@[simp] theorem tk_109 : tk Tryd.prog 109 = .func := by kernel_rfl
@[simp] theorem tsz_109 : tsz Tryd.prog 109 = some 1 := by kernel_rfl
@[simp] theorem tk_110 : tk Tryd.prog 110 = .func := by kernel_rfl
@[simp] theorem tsz_110 : tsz Tryd.prog 110 = some 1 := by kernel_rfl
@[simp] theorem tk_111 : tk Tryd.prog 111 = .func := by kernel_rfl
@[simp] theorem tsz_111 : tsz Tryd.prog 111 = some 1 := by kernel_rfl
@[simp] theorem tk_112 : tk Tryd.prog 112 = .func := by kernel_rfl
@[simp] theorem tsz_112 : tsz Tryd.prog 112 = some 1 := by kernel_rfl
@[simp] theorem tk_114 : tk Tryd.prog 114 = .func := by kernel_rfl
@[simp] theorem tsz_114 : tsz Tryd.prog 114 = some 1 := by kernel_rfl
@[simp] theorem tk_115 : tk Tryd.prog 115 = .func := by kernel_rfl
@[simp] theorem tsz_115 : tsz Tryd.prog 115 = some 1 := by kernel_rfl
@[simp] theorem tk_116 : tk Tryd.prog 116 = .int .u64 := by kernel_rfl
@[simp] theorem tsz_116 : tsz Tryd.prog 116 = some 1 := by kernel_rfl
@[simp] theorem tzero_116 : tzero Tryd.prog 116 = some ([.d (.int .u64 0)]) := by kernel_rfl
@[simp] theorem tbytes_116 : tbytes Tryd.prog 116 = some 8 := by kernel_rfl
@[simp] theorem tzeroD_116 : tzeroD Tryd.prog 116 = some (.int .u64 0) := by kernel_rfl
@[simp] theorem tk_117 : tk Tryd.prog 117 = .arr 4 116 := by kernel_rfl
@[simp] theorem tsz_117 : tsz Tryd.prog 117 = some 4 := by kernel_rfl
@[simp] theorem tzero_117 : tzero Tryd.prog 117 = some ([.d (.int .u64 0), .d (.int .u64 0), .d (.int .u64 0), .d (.int .u64 0)]) := by kernel_rfl
@[simp] theorem tbytes_117 : tbytes Tryd.prog 117 = some 32 := by kernel_rfl
@[simp] theorem tzeroD_117 : tzeroD Tryd.prog 117 = some (.agg ([.int .u64 0, .int .u64 0, .int .u64 0, .int .u64 0])) := by kernel_rfl
@[simp] theorem fplace_117 : fplace Tryd.prog 117 = none := by kernel_rfl
@[simp] theorem tk_118 : tk Tryd.prog 118 = .struct := by kernel_rfl
@[simp] theorem tsz_118 : tsz Tryd.prog 118 = some 5 := by kernel_rfl
@[simp] theorem tzero_118 : tzero Tryd.prog 118 = some ([.d (.int .u64 0), .d (.int .u64 0), .d (.int .u64 0), .d (.int .u64 0), .d (.bool false)]) := by kernel_rfl
@[simp] theorem tbytes_118 : tbytes Tryd.prog 118 = some 40 := by kernel_rfl
@[simp] theorem tzeroD_118 : tzeroD Tryd.prog 118 = some (.agg ([.int .u64 0, .int .u64 0, .int .u64 0, .int .u64 0, .bool false])) := by kernel_rfl
@[simp] theorem foff_118_0 : foff Tryd.prog 118 0 = some 0 := by kernel_rfl
@[simp] theorem foff_118_1 : foff Tryd.prog 118 1 = some 4 := by kernel_rfl
@[simp] theorem fplace_118 : fplace Tryd.prog 118 = some [(0, 4), (4, 1)] := by kernel_rfl
@[simp] theorem tk_119 : tk Tryd.prog 119 = .struct := by kernel_rfl
@[simp] theorem tsz_119 : tsz Tryd.prog 119 = some 5 := by kernel_rfl
@[simp] theorem tzero_119 : tzero Tryd.prog 119 = some ([.d (.int .u64 0), .d (.int .u64 0), .d (.int .u64 0), .d (.int .u64 0), .d (.bool false)]) := by kernel_rfl
@[simp] theorem tbytes_119 : tbytes Tryd.prog 119 = some 40 := by kernel_rfl
@[simp] theorem tzeroD_119 : tzeroD Tryd.prog 119 = some (.agg ([.int .u64 0, .int .u64 0, .int .u64 0, .int .u64 0, .bool false])) := by kernel_rfl
@[simp] theorem foff_119_0 : foff Tryd.prog 119 0 = some 0 := by kernel_rfl
@[simp] theorem foff_119_1 : foff Tryd.prog 119 1 = some 4 := by kernel_rfl
@[simp] theorem fplace_119 : fplace Tryd.prog 119 = some [(0, 4), (4, 1)] := by kernel_rfl
@[simp] theorem tk_120 : tk Tryd.prog 120 = .func := by kernel_rfl
@[simp] theorem tsz_120 : tsz Tryd.prog 120 = some 1 := by kernel_rfl
@[simp] theorem tk_121 : tk Tryd.prog 121 = .func := by kernel_rfl
@[simp] theorem tsz_121 : tsz Tryd.prog 121 = some 1 := by kernel_rfl
@[simp] theorem tk_122 : tk Tryd.prog 122 = .func := by kernel_rfl
@[simp] theorem tsz_122 : tsz Tryd.prog 122 = some 1 := by kernel_rfl
@[simp] theorem tk_124 : tk Tryd.prog 124 = .func := by kernel_rfl
@[simp] theorem tsz_124 : tsz Tryd.prog 124 = some 1 := by kernel_rfl
@[simp] theorem tk_126 : tk Tryd.prog 126 = .func := by kernel_rfl
@[simp] theorem tsz_126 : tsz Tryd.prog 126 = some 1 := by kernel_rfl
@[simp] theorem tk_127 : tk Tryd.prog 127 = .arr 256 5 := by kernel_rfl
@[simp] theorem tsz_127 : tsz Tryd.prog 127 = some 256 := by kernel_rfl
@[simp] theorem tzero_127 : tzero Tryd.prog 127 = some (List.replicate 256 (.d (.int .u8 0))) := by kernel_rfl
@[simp] theorem tbytes_127 : tbytes Tryd.prog 127 = some 256 := by kernel_rfl
@[simp] theorem tzeroD_127 : tzeroD Tryd.prog 127 = some (.agg (List.replicate 256 (.int .u8 0))) := by kernel_rfl
@[simp] theorem fplace_127 : fplace Tryd.prog 127 = none := by kernel_rfl
@[simp] theorem tk_128 : tk Tryd.prog 128 = .func := by kernel_rfl
@[simp] theorem tsz_128 : tsz Tryd.prog 128 = some 1 := by kernel_rfl
@[simp] theorem tk_129 : tk Tryd.prog 129 = .func := by kernel_rfl
@[simp] theorem tsz_129 : tsz Tryd.prog 129 = some 1 := by kernel_rfl
@[simp] theorem tk_130 : tk Tryd.prog 130 = .func := by kernel_rfl
@[simp] theorem tsz_130 : tsz Tryd.prog 130 = some 1 := by kernel_rfl
@[simp] theorem tk_131 : tk Tryd.prog 131 = .int .u64 := by kernel_rfl
@[simp] theorem tsz_131 : tsz Tryd.prog 131 = some 1 := by kernel_rfl
@[simp] theorem tzero_131 : tzero Tryd.prog 131 = some ([.d (.int .u64 0)]) := by kernel_rfl
@[simp] theorem tbytes_131 : tbytes Tryd.prog 131 = some 8 := by kernel_rfl
@[simp] theorem tzeroD_131 : tzeroD Tryd.prog 131 = some (.int .u64 0) := by kernel_rfl
@[simp] theorem tk_133 : tk Tryd.prog 133 = .func := by kernel_rfl
@[simp] theorem tsz_133 : tsz Tryd.prog 133 = some 1 := by kernel_rfl
@[simp] theorem tk_134 : tk Tryd.prog 134 = .func := by kernel_rfl
@[simp] theorem tsz_134 : tsz Tryd.prog 134 = some 1 := by kernel_rfl
@[simp] theorem tk_135 : tk Tryd.prog 135 = .func := by kernel_rfl
@[simp] theorem tsz_135 : tsz Tryd.prog 135 = some 1 := by kernel_rfl
@[simp] theorem tk_136 : tk Tryd.prog 136 = .slice 138 := by kernel_rfl
@[simp] theorem tsz_136 : tsz Tryd.prog 136 = some 1 := by kernel_rfl
@[simp] theorem tzero_136 : tzero Tryd.prog 136 = some ([.lit (.slice none 0 0)]) := by kernel_rfl
@[simp] theorem tbytes_136 : tbytes Tryd.prog 136 = some 24 := by kernel_rfl
@[simp] theorem tzeroD_136 : tzeroD Tryd.prog 136 = some (.list []) := by kernel_rfl
@[simp] theorem srcTy_136 : srcTy Tryd.prog 136 = true := by kernel_rfl
@[simp] theorem tk_137 : tk Tryd.prog 137 = .struct := by kernel_rfl
@[simp] theorem tsz_137 : tsz Tryd.prog 137 = some 2 := by kernel_rfl
@[simp] theorem tzero_137 : tzero Tryd.prog 137 = some ([.d (.int .i64 0), .d (.int .i64 0)]) := by kernel_rfl
@[simp] theorem tbytes_137 : tbytes Tryd.prog 137 = some 16 := by kernel_rfl
@[simp] theorem tzeroD_137 : tzeroD Tryd.prog 137 = some (.agg ([.int .i64 0, .int .i64 0])) := by kernel_rfl
@[simp] theorem foff_137_0 : foff Tryd.prog 137 0 = some 0 := by kernel_rfl
@[simp] theorem foff_137_1 : foff Tryd.prog 137 1 = some 1 := by kernel_rfl
@[simp] theorem fplace_137 : fplace Tryd.prog 137 = some [(0, 1), (1, 1)] := by kernel_rfl
@[simp] theorem flat_137 : flatStruct Tryd.prog 137 = some [.int .i64, .int .i64] := by kernel_rfl
@[simp] theorem tk_138 : tk Tryd.prog 138 = .struct := by kernel_rfl
@[simp] theorem tsz_138 : tsz Tryd.prog 138 = some 2 := by kernel_rfl
@[simp] theorem tzero_138 : tzero Tryd.prog 138 = some ([.d (.int .i64 0), .d (.int .i64 0)]) := by kernel_rfl
@[simp] theorem tbytes_138 : tbytes Tryd.prog 138 = some 16 := by kernel_rfl
@[simp] theorem tzeroD_138 : tzeroD Tryd.prog 138 = some (.agg ([.int .i64 0, .int .i64 0])) := by kernel_rfl
@[simp] theorem foff_138_0 : foff Tryd.prog 138 0 = some 0 := by kernel_rfl
@[simp] theorem foff_138_1 : foff Tryd.prog 138 1 = some 1 := by kernel_rfl
@[simp] theorem fplace_138 : fplace Tryd.prog 138 = some [(0, 1), (1, 1)] := by kernel_rfl
@[simp] theorem flat_138 : flatStruct Tryd.prog 138 = some [.int .i64, .int .i64] := by kernel_rfl
@[simp] theorem tk_139 : tk Tryd.prog 139 = .int .u32 := by kernel_rfl
@[simp] theorem tsz_139 : tsz Tryd.prog 139 = some 1 := by kernel_rfl
@[simp] theorem tzero_139 : tzero Tryd.prog 139 = some ([.d (.int .u32 0)]) := by kernel_rfl
@[simp] theorem tbytes_139 : tbytes Tryd.prog 139 = some 4 := by kernel_rfl
@[simp] theorem tzeroD_139 : tzeroD Tryd.prog 139 = some (.int .u32 0) := by kernel_rfl
@[simp] theorem tk_140 : tk Tryd.prog 140 = .func := by kernel_rfl
@[simp] theorem tsz_140 : tsz Tryd.prog 140 = some 1 := by kernel_rfl
@[simp] theorem tk_141 : tk Tryd.prog 141 = .ptr 146 := by kernel_rfl
@[simp] theorem tsz_141 : tsz Tryd.prog 141 = some 1 := by kernel_rfl
@[simp] theorem tk_142 : tk Tryd.prog 142 = .func := by kernel_rfl
@[simp] theorem tsz_142 : tsz Tryd.prog 142 = some 1 := by kernel_rfl
@[simp] theorem tk_143 : tk Tryd.prog 143 = .slice 149 := by kernel_rfl
@[simp] theorem tsz_143 : tsz Tryd.prog 143 = some 1 := by kernel_rfl
@[simp] theorem tzero_143 : tzero Tryd.prog 143 = some ([.lit (.slice none 0 0)]) := by kernel_rfl
@[simp] theorem tbytes_143 : tbytes Tryd.prog 143 = some 24 := by kernel_rfl
@[simp] theorem tzeroD_143 : tzeroD Tryd.prog 143 = some (.list []) := by kernel_rfl
@[simp] theorem srcTy_143 : srcTy Tryd.prog 143 = true := by kernel_rfl
@[simp] theorem tk_144 : tk Tryd.prog 144 = .slice 152 := by kernel_rfl
@[simp] theorem tsz_144 : tsz Tryd.prog 144 = some 1 := by kernel_rfl
@[simp] theorem tzero_144 : tzero Tryd.prog 144 = some ([.lit (.slice none 0 0)]) := by kernel_rfl
@[simp] theorem tbytes_144 : tbytes Tryd.prog 144 = some 24 := by kernel_rfl
@[simp] theorem tzeroD_144 : tzeroD Tryd.prog 144 = some (.list []) := by kernel_rfl
@[simp] theorem srcTy_144 : srcTy Tryd.prog 144 = true := by kernel_rfl
@[simp] theorem tk_145 : tk Tryd.prog 145 = .struct := by kernel_rfl
@[simp] theorem tsz_145 : tsz Tryd.prog 145 = some 3 := by kernel_rfl
@[simp] theorem tzero_145 : tzero Tryd.prog 145 = some ([.lit (.slice none 0 0), .lit (.slice none 0 0), .d (.int .i64 0)]) := by kernel_rfl
@[simp] theorem tbytes_145 : tbytes Tryd.prog 145 = some 56 := by kernel_rfl
@[simp] theorem tzeroD_145 : tzeroD Tryd.prog 145 = some (.agg ([.list [], .list [], .int .i64 0])) := by kernel_rfl
@[simp] theorem foff_145_0 : foff Tryd.prog 145 0 = some 0 := by kernel_rfl
@[simp] theorem foff_145_1 : foff Tryd.prog 145 1 = some 1 := by kernel_rfl
@[simp] theorem foff_145_2 : foff Tryd.prog 145 2 = some 2 := by kernel_rfl
@[simp] theorem fplace_145 : fplace Tryd.prog 145 = some [(0, 1), (1, 1), (2, 1)] := by kernel_rfl
@[simp] theorem tk_146 : tk Tryd.prog 146 = .struct := by kernel_rfl
@[simp] theorem tsz_146 : tsz Tryd.prog 146 = some 3 := by kernel_rfl
@[simp] theorem tzero_146 : tzero Tryd.prog 146 = some ([.lit (.slice none 0 0), .lit (.slice none 0 0), .d (.int .i64 0)]) := by kernel_rfl
@[simp] theorem tbytes_146 : tbytes Tryd.prog 146 = some 56 := by kernel_rfl
@[simp] theorem tzeroD_146 : tzeroD Tryd.prog 146 = some (.agg ([.list [], .list [], .int .i64 0])) := by kernel_rfl
@[simp] theorem foff_146_0 : foff Tryd.prog 146 0 = some 0 := by kernel_rfl
@[simp] theorem foff_146_1 : foff Tryd.prog 146 1 = some 1 := by kernel_rfl
@[simp] theorem foff_146_2 : foff Tryd.prog 146 2 = some 2 := by kernel_rfl
@[simp] theorem fplace_146 : fplace Tryd.prog 146 = some [(0, 1), (1, 1), (2, 1)] := by kernel_rfl
@[simp] theorem tk_147 : tk Tryd.prog 147 = .int .u16 := by kernel_rfl
@[simp] theorem tsz_147 : tsz Tryd.prog 147 = some 1 := by kernel_rfl
@[simp] theorem tzero_147 : tzero Tryd.prog 147 = some ([.d (.int .u16 0)]) := by kernel_rfl
@[simp] theorem tbytes_147 : tbytes Tryd.prog 147 = some 2 := by kernel_rfl
@[simp] theorem tzeroD_147 : tzeroD Tryd.prog 147 = some (.int .u16 0) := by kernel_rfl
@[simp] theorem tk_148 : tk Tryd.prog 148 = .struct := by kernel_rfl
@[simp] theorem tsz_148 : tsz Tryd.prog 148 = some 3 := by kernel_rfl
@[simp] theorem tzero_148 : tzero Tryd.prog 148 = some ([.d (.int .u16 0), .d (.int .u16 0), .d (.int .u16 0)]) := by kernel_rfl
@[simp] theorem tbytes_148 : tbytes Tryd.prog 148 = some 6 := by kernel_rfl
@[simp] theorem tzeroD_148 : tzeroD Tryd.prog 148 = some (.agg ([.int .u16 0, .int .u16 0, .int .u16 0])) := by kernel_rfl
@[simp] theorem foff_148_0 : foff Tryd.prog 148 0 = some 0 := by kernel_rfl
@[simp] theorem foff_148_1 : foff Tryd.prog 148 1 = some 1 := by kernel_rfl
@[simp] theorem foff_148_2 : foff Tryd.prog 148 2 = some 2 := by kernel_rfl
@[simp] theorem fplace_148 : fplace Tryd.prog 148 = some [(0, 1), (1, 1), (2, 1)] := by kernel_rfl
@[simp] theorem flat_148 : flatStruct Tryd.prog 148 = some [.int .u16, .int .u16, .int .u16] := by kernel_rfl
@[simp] theorem tk_149 : tk Tryd.prog 149 = .struct := by kernel_rfl
@[simp] theorem tsz_149 : tsz Tryd.prog 149 = some 3 := by kernel_rfl
@[simp] theorem tzero_149 : tzero Tryd.prog 149 = some ([.d (.int .u16 0), .d (.int .u16 0), .d (.int .u16 0)]) := by kernel_rfl
@[simp] theorem tbytes_149 : tbytes Tryd.prog 149 = some 6 := by kernel_rfl
@[simp] theorem tzeroD_149 : tzeroD Tryd.prog 149 = some (.agg ([.int .u16 0, .int .u16 0, .int .u16 0])) := by kernel_rfl
@[simp] theorem foff_149_0 : foff Tryd.prog 149 0 = some 0 := by kernel_rfl
@[simp] theorem foff_149_1 : foff Tryd.prog 149 1 = some 1 := by kernel_rfl
@[simp] theorem foff_149_2 : foff Tryd.prog 149 2 = some 2 := by kernel_rfl
@[simp] theorem fplace_149 : fplace Tryd.prog 149 = some [(0, 1), (1, 1), (2, 1)] := by kernel_rfl
@[simp] theorem flat_149 : flatStruct Tryd.prog 149 = some [.int .u16, .int .u16, .int .u16] := by kernel_rfl
@[simp] theorem tk_150 : tk Tryd.prog 150 = .func := by kernel_rfl
@[simp] theorem tsz_150 : tsz Tryd.prog 150 = some 1 := by kernel_rfl
@[simp] theorem tk_151 : tk Tryd.prog 151 = .struct := by kernel_rfl
@[simp] theorem tsz_151 : tsz Tryd.prog 151 = some 3 := by kernel_rfl
@[simp] theorem tzero_151 : tzero Tryd.prog 151 = some ([.d (.int .u32 0), .d (.int .u32 0), .d (.int .u32 0)]) := by kernel_rfl
@[simp] theorem tbytes_151 : tbytes Tryd.prog 151 = some 12 := by kernel_rfl
@[simp] theorem tzeroD_151 : tzeroD Tryd.prog 151 = some (.agg ([.int .u32 0, .int .u32 0, .int .u32 0])) := by kernel_rfl
@[simp] theorem foff_151_0 : foff Tryd.prog 151 0 = some 0 := by kernel_rfl
@[simp] theorem foff_151_1 : foff Tryd.prog 151 1 = some 1 := by kernel_rfl
@[simp] theorem foff_151_2 : foff Tryd.prog 151 2 = some 2 := by kernel_rfl
@[simp] theorem fplace_151 : fplace Tryd.prog 151 = some [(0, 1), (1, 1), (2, 1)] := by kernel_rfl
@[simp] theorem flat_151 : flatStruct Tryd.prog 151 = some [.int .u32, .int .u32, .int .u32] := by kernel_rfl
@[simp] theorem tk_152 : tk Tryd.prog 152 = .struct := by kernel_rfl
@[simp] theorem tsz_152 : tsz Tryd.prog 152 = some 3 := by kernel_rfl
@[simp] theorem tzero_152 : tzero Tryd.prog 152 = some ([.d (.int .u32 0), .d (.int .u32 0), .d (.int .u32 0)]) := by kernel_rfl
@[simp] theorem tbytes_152 : tbytes Tryd.prog 152 = some 12 := by kernel_rfl
@[simp] theorem tzeroD_152 : tzeroD Tryd.prog 152 = some (.agg ([.int .u32 0, .int .u32 0, .int .u32 0])) := by kernel_rfl
@[simp] theorem foff_152_0 : foff Tryd.prog 152 0 = some 0 := by kernel_rfl
@[simp] theorem foff_152_1 : foff Tryd.prog 152 1 = some 1 := by kernel_rfl
@[simp] theorem foff_152_2 : foff Tryd.prog 152 2 = some 2 := by kernel_rfl
@[simp] theorem fplace_152 : fplace Tryd.prog 152 = some [(0, 1), (1, 1), (2, 1)] := by kernel_rfl
@[simp] theorem flat_152 : flatStruct Tryd.prog 152 = some [.int .u32, .int .u32, .int .u32] := by kernel_rfl
@[simp] theorem tk_153 : tk Tryd.prog 153 = .func := by kernel_rfl
@[simp] theorem tsz_153 : tsz Tryd.prog 153 = some 1 := by kernel_rfl
@[simp] theorem tk_154 : tk Tryd.prog 154 = .ptr 149 := by kernel_rfl
@[simp] theorem tsz_154 : tsz Tryd.prog 154 = some 1 := by kernel_rfl
@[simp] theorem tk_155 : tk Tryd.prog 155 = .ptr 152 := by kernel_rfl
@[simp] theorem tsz_155 : tsz Tryd.prog 155 = some 1 := by kernel_rfl
@[simp] theorem tk_156 : tk Tryd.prog 156 = .func := by kernel_rfl
@[simp] theorem tsz_156 : tsz Tryd.prog 156 = some 1 := by kernel_rfl
@[simp] theorem tk_157 : tk Tryd.prog 157 = .struct := by kernel_rfl
@[simp] theorem tsz_157 : tsz Tryd.prog 157 = some 4 := by kernel_rfl
@[simp] theorem tzero_157 : tzero Tryd.prog 157 = some ([.lit (.pointer none), .lit (.pointer none), .lit (.pointer none), .d (.str [])]) := by kernel_rfl
@[simp] theorem foff_157_0 : foff Tryd.prog 157 0 = some 0 := by kernel_rfl
@[simp] theorem foff_157_1 : foff Tryd.prog 157 1 = some 1 := by kernel_rfl
@[simp] theorem foff_157_2 : foff Tryd.prog 157 2 = some 2 := by kernel_rfl
@[simp] theorem foff_157_3 : foff Tryd.prog 157 3 = some 3 := by kernel_rfl
@[simp] theorem fplace_157 : fplace Tryd.prog 157 = some [(0, 1), (1, 1), (2, 1), (3, 1)] := by kernel_rfl
@[simp] theorem tk_158 : tk Tryd.prog 158 = .struct := by kernel_rfl
@[simp] theorem tsz_158 : tsz Tryd.prog 158 = some 4 := by kernel_rfl
@[simp] theorem tzero_158 : tzero Tryd.prog 158 = some ([.lit (.pointer none), .lit (.pointer none), .lit (.pointer none), .d (.str [])]) := by kernel_rfl
@[simp] theorem foff_158_0 : foff Tryd.prog 158 0 = some 0 := by kernel_rfl
@[simp] theorem foff_158_1 : foff Tryd.prog 158 1 = some 1 := by kernel_rfl
@[simp] theorem foff_158_2 : foff Tryd.prog 158 2 = some 2 := by kernel_rfl
@[simp] theorem foff_158_3 : foff Tryd.prog 158 3 = some 3 := by kernel_rfl
@[simp] theorem fplace_158 : fplace Tryd.prog 158 = some [(0, 1), (1, 1), (2, 1), (3, 1)] := by kernel_rfl
@[simp] theorem tk_159 : tk Tryd.prog 159 = .arr 0 16 := by kernel_rfl
@[simp] theorem tsz_159 : tsz Tryd.prog 159 = some 0 := by kernel_rfl
@[simp] theorem tzero_159 : tzero Tryd.prog 159 = some ([]) := by kernel_rfl
@[simp] theorem tbytes_159 : tbytes Tryd.prog 159 = some 0 := by kernel_rfl
@[simp] theorem tzeroD_159 : tzeroD Tryd.prog 159 = some (.agg ([])) := by kernel_rfl
@[simp] theorem fplace_159 : fplace Tryd.prog 159 = none := by kernel_rfl
@[simp] theorem tk_160 : tk Tryd.prog 160 = .struct := by kernel_rfl
@[simp] theorem tsz_160 : tsz Tryd.prog 160 = some 0 := by kernel_rfl
@[simp] theorem tzero_160 : tzero Tryd.prog 160 = some ([]) := by kernel_rfl
@[simp] theorem tbytes_160 : tbytes Tryd.prog 160 = some 0 := by kernel_rfl
@[simp] theorem tzeroD_160 : tzeroD Tryd.prog 160 = some (.agg ([])) := by kernel_rfl
@[simp] theorem fplace_160 : fplace Tryd.prog 160 = some [(0, 0)] := by kernel_rfl
@[simp] theorem tk_161 : tk Tryd.prog 161 = .struct := by kernel_rfl
@[simp] theorem tsz_161 : tsz Tryd.prog 161 = some 0 := by kernel_rfl
@[simp] theorem tzero_161 : tzero Tryd.prog 161 = some ([]) := by kernel_rfl
@[simp] theorem tbytes_161 : tbytes Tryd.prog 161 = some 0 := by kernel_rfl
@[simp] theorem tzeroD_161 : tzeroD Tryd.prog 161 = some (.agg ([])) := by kernel_rfl
@[simp] theorem fplace_161 : fplace Tryd.prog 161 = some [(0, 0)] := by kernel_rfl
@[simp] theorem tk_162 : tk Tryd.prog 162 = .func := by kernel_rfl
@[simp] theorem tsz_162 : tsz Tryd.prog 162 = some 1 := by kernel_rfl
@[simp] theorem tk_163 : tk Tryd.prog 163 = .int .u8 := by kernel_rfl
@[simp] theorem tsz_163 : tsz Tryd.prog 163 = some 1 := by kernel_rfl
@[simp] theorem tzero_163 : tzero Tryd.prog 163 = some ([.d (.int .u8 0)]) := by kernel_rfl
@[simp] theorem tbytes_163 : tbytes Tryd.prog 163 = some 1 := by kernel_rfl
@[simp] theorem tzeroD_163 : tzeroD Tryd.prog 163 = some (.int .u8 0) := by kernel_rfl
@[simp] theorem tk_164 : tk Tryd.prog 164 = .int .u8 := by kernel_rfl
@[simp] theorem tsz_164 : tsz Tryd.prog 164 = some 1 := by kernel_rfl
@[simp] theorem tzero_164 : tzero Tryd.prog 164 = some ([.d (.int .u8 0)]) := by kernel_rfl
@[simp] theorem tbytes_164 : tbytes Tryd.prog 164 = some 1 := by kernel_rfl
@[simp] theorem tzeroD_164 : tzeroD Tryd.prog 164 = some (.int .u8 0) := by kernel_rfl
@[simp] theorem tk_165 : tk Tryd.prog 165 = .func := by kernel_rfl
@[simp] theorem tsz_165 : tsz Tryd.prog 165 = some 1 := by kernel_rfl
@[simp] theorem tk_166 : tk Tryd.prog 166 = .ptr 5 := by kernel_rfl
@[simp] theorem tsz_166 : tsz Tryd.prog 166 = some 1 := by kernel_rfl
@[simp] theorem tk_167 : tk Tryd.prog 167 = .int .i32 := by kernel_rfl
@[simp] theorem tsz_167 : tsz Tryd.prog 167 = some 1 := by kernel_rfl
@[simp] theorem tzero_167 : tzero Tryd.prog 167 = some ([.d (.int .i32 0)]) := by kernel_rfl
@[simp] theorem tbytes_167 : tbytes Tryd.prog 167 = some 4 := by kernel_rfl
@[simp] theorem tzeroD_167 : tzeroD Tryd.prog 167 = some (.int .i32 0) := by kernel_rfl
@[simp] theorem tk_168 : tk Tryd.prog 168 = .int .i32 := by kernel_rfl
@[simp] theorem tsz_168 : tsz Tryd.prog 168 = some 1 := by kernel_rfl
@[simp] theorem tzero_168 : tzero Tryd.prog 168 = some ([.d (.int .i32 0)]) := by kernel_rfl
@[simp] theorem tbytes_168 : tbytes Tryd.prog 168 = some 4 := by kernel_rfl
@[simp] theorem tzeroD_168 : tzeroD Tryd.prog 168 = some (.int .i32 0) := by kernel_rfl
@[simp] theorem tk_169 : tk Tryd.prog 169 = .struct := by kernel_rfl
@[simp] theorem tsz_169 : tsz Tryd.prog 169 = some 11 := by kernel_rfl
@[simp] theorem tzero_169 : tzero Tryd.prog 169 = some ([.d (.int .u64 0), .d (.int .u64 0), .d (.int .u32 0), .d (.int .u8 0), .d (.int .u8 0), .d (.int .u8 0), .d (.int .u8 0), .lit .nilFunc, .lit (.pointer none), .d (.int .i32 0), .d (.int .i32 0)]) := by kernel_rfl
@[simp] theorem foff_169_0 : foff Tryd.prog 169 0 = some 0 := by kernel_rfl
@[simp] theorem foff_169_1 : foff Tryd.prog 169 1 = some 1 := by kernel_rfl
@[simp] theorem foff_169_2 : foff Tryd.prog 169 2 = some 2 := by kernel_rfl
@[simp] theorem foff_169_3 : foff Tryd.prog 169 3 = some 3 := by kernel_rfl
@[simp] theorem foff_169_4 : foff Tryd.prog 169 4 = some 4 := by kernel_rfl
@[simp] theorem foff_169_5 : foff Tryd.prog 169 5 = some 5 := by kernel_rfl
@[simp] theorem foff_169_6 : foff Tryd.prog 169 6 = some 6 := by kernel_rfl
@[simp] theorem foff_169_7 : foff Tryd.prog 169 7 = some 7 := by kernel_rfl
@[simp] theorem foff_169_8 : foff Tryd.prog 169 8 = some 8 := by kernel_rfl
@[simp] theorem foff_169_9 : foff Tryd.prog 169 9 = some 9 := by kernel_rfl
@[simp] theorem foff_169_10 : foff Tryd.prog 169 10 = some 10 := by kernel_rfl
@[simp] theorem fplace_169 : fplace Tryd.prog 169 = some [(0, 1), (1, 1), (2, 1), (3, 1), (4, 1), (5, 1), (6, 1), (7, 1), (8, 1), (9, 1), (10, 1)] := by kernel_rfl
@[simp] theorem tk_170 : tk Tryd.prog 170 = .struct := by kernel_rfl
@[simp] theorem tsz_170 : tsz Tryd.prog 170 = some 11 := by kernel_rfl
@[simp] theorem tzero_170 : tzero Tryd.prog 170 = some ([.d (.int .u64 0), .d (.int .u64 0), .d (.int .u32 0), .d (.int .u8 0), .d (.int .u8 0), .d (.int .u8 0), .d (.int .u8 0), .lit .nilFunc, .lit (.pointer none), .d (.int .i32 0), .d (.int .i32 0)]) := by kernel_rfl
@[simp] theorem foff_170_0 : foff Tryd.prog 170 0 = some 0 := by kernel_rfl
@[simp] theorem foff_170_1 : foff Tryd.prog 170 1 = some 1 := by kernel_rfl
@[simp] theorem foff_170_2 : foff Tryd.prog 170 2 = some 2 := by kernel_rfl
@[simp] theorem foff_170_3 : foff Tryd.prog 170 3 = some 3 := by kernel_rfl
@[simp] theorem foff_170_4 : foff Tryd.prog 170 4 = some 4 := by kernel_rfl
@[simp] theorem foff_170_5 : foff Tryd.prog 170 5 = some 5 := by kernel_rfl
@[simp] theorem foff_170_6 : foff Tryd.prog 170 6 = some 6 := by kernel_rfl
@[simp] theorem foff_170_7 : foff Tryd.prog 170 7 = some 7 := by kernel_rfl
@[simp] theorem foff_170_8 : foff Tryd.prog 170 8 = some 8 := by kernel_rfl
@[simp] theorem foff_170_9 : foff Tryd.prog 170 9 = some 9 := by kernel_rfl
@[simp] theorem foff_170_10 : foff Tryd.prog 170 10 = some 10 := by kernel_rfl
@[simp] theorem fplace_170 : fplace Tryd.prog 170 = some [(0, 1), (1, 1), (2, 1), (3, 1), (4, 1), (5, 1), (6, 1), (7, 1), (8, 1), (9, 1), (10, 1)] := by kernel_rfl
end Go.Am
end
section
namespace Go.Am
open Go
def idxO : List D → Option D
  | [.str s, .str t] => if s.length < 4294967281 then some (.int .i64 (Go.Lib.index s t)) else none
  | _ => none
def ibO : List D → Option D
  | [.str s, .int .u8 c] => some (.int .i64 (Go.Lib.indexByte s c.toNat.toUInt8))
  | _ => none
def hpO : List D → Option D
  | [.str s, .str p] => some (.bool (Go.Lib.hasPrefix s p))
  | _ => none
attribute [simp] idxO.eq_1 ibO.eq_1 hpO.eq_1
end Go.Am
end
