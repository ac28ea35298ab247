/-
  Texts of one proof, one behind the other.
-/
import Derived.Test.YtmlboljlgaaebaaGreatDoorP4
import Derived.Test.YtmlboljlgaaebaaGreatDoorProg
import Derived.KernelRfl
import Derived.Lib.Bytealg
import Derived.Lib.Index
import Derived.Lib.Strings
set_option linter.all false
section
namespace Go.Am
open Go
open Go.Proofs
@[simp] theorem tk_1 : tk Tryz.prog 1 = .func := by kernel_rfl
@[simp] theorem tsz_1 : tsz Tryz.prog 1 = some 1 := by kernel_rfl
@[simp] theorem tk_2 : tk Tryz.prog 2 = .int .i64 := by kernel_rfl
@[simp] theorem tsz_2 : tsz Tryz.prog 2 = some 1 := by kernel_rfl
@[simp] theorem tzero_2 : tzero Tryz.prog 2 = some ([.d (.int .i64 0)]) := by kernel_rfl
@[simp] theorem tbytes_2 : tbytes Tryz.prog 2 = some 8 := by kernel_rfl
@[simp] theorem tzeroD_2 : tzeroD Tryz.prog 2 = some (.int .i64 0) := by kernel_rfl
@[simp] theorem tk_3 : tk Tryz.prog 3 = .int .i64 := by kernel_rfl
@[simp] theorem tsz_3 : tsz Tryz.prog 3 = some 1 := by kernel_rfl
@[simp] theorem tzero_3 : tzero Tryz.prog 3 = some ([.d (.int .i64 0)]) := by kernel_rfl
@[simp] theorem tbytes_3 : tbytes Tryz.prog 3 = some 8 := by kernel_rfl
@[simp] theorem tzeroD_3 : tzeroD Tryz.prog 3 = some (.int .i64 0) := by kernel_rfl
@[simp] theorem tk_4 : tk Tryz.prog 4 = .bool := by kernel_rfl
@[simp] theorem tsz_4 : tsz Tryz.prog 4 = some 1 := by kernel_rfl
@[simp] theorem tzero_4 : tzero Tryz.prog 4 = some ([.d (.bool false)]) := by kernel_rfl
@[simp] theorem tbytes_4 : tbytes Tryz.prog 4 = some 1 := by kernel_rfl
@[simp] theorem tzeroD_4 : tzeroD Tryz.prog 4 = some (.bool false) := by kernel_rfl
@[simp] theorem tk_5 : tk Tryz.prog 5 = .int .u8 := by kernel_rfl
@[simp] theorem tsz_5 : tsz Tryz.prog 5 = some 1 := by kernel_rfl
@[simp] theorem tzero_5 : tzero Tryz.prog 5 = some ([.d (.int .u8 0)]) := by kernel_rfl
@[simp] theorem tbytes_5 : tbytes Tryz.prog 5 = some 1 := by kernel_rfl
@[simp] theorem tzeroD_5 : tzeroD Tryz.prog 5 = some (.int .u8 0) := by kernel_rfl
@[simp] theorem tk_6 : tk Tryz.prog 6 = .int .u8 := by kernel_rfl
@[simp] theorem tsz_6 : tsz Tryz.prog 6 = some 1 := by kernel_rfl
@[simp] theorem tzero_6 : tzero Tryz.prog 6 = some ([.d (.int .u8 0)]) := by kernel_rfl
@[simp] theorem tbytes_6 : tbytes Tryz.prog 6 = some 1 := by kernel_rfl
@[simp] theorem tzeroD_6 : tzeroD Tryz.prog 6 = some (.int .u8 0) := by kernel_rfl
@[simp] theorem tk_7 : tk Tryz.prog 7 = .struct := by kernel_rfl
@[simp] theorem tsz_7 : tsz Tryz.prog 7 = some 4 := by kernel_rfl
@[simp] theorem tzero_7 : tzero Tryz.prog 7 = some ([.d (.int .i64 0), .d (.int .i64 0), .d (.bool false), .d (.int .u8 0)]) := by kernel_rfl
@[simp] theorem tbytes_7 : tbytes Tryz.prog 7 = some 24 := by kernel_rfl
@[simp] theorem tzeroD_7 : tzeroD Tryz.prog 7 = some (.agg ([.int .i64 0, .int .i64 0, .bool false, .int .u8 0])) := by kernel_rfl
@[simp] theorem foff_7_0 : foff Tryz.prog 7 0 = some 0 := by kernel_rfl
@[simp] theorem foff_7_1 : foff Tryz.prog 7 1 = some 1 := by kernel_rfl
@[simp] theorem foff_7_2 : foff Tryz.prog 7 2 = some 2 := by kernel_rfl
@[simp] theorem foff_7_3 : foff Tryz.prog 7 3 = some 3 := by kernel_rfl
@[simp] theorem fplace_7 : fplace Tryz.prog 7 = some [(0, 1), (1, 1), (2, 1), (3, 1)] := by kernel_rfl
@[simp] theorem tk_8 : tk Tryz.prog 8 = .struct := by kernel_rfl
@[simp] theorem tsz_8 : tsz Tryz.prog 8 = some 4 := by kernel_rfl
@[simp] theorem tzero_8 : tzero Tryz.prog 8 = some ([.d (.int .i64 0), .d (.int .i64 0), .d (.bool false), .d (.int .u8 0)]) := by kernel_rfl
@[simp] theorem tbytes_8 : tbytes Tryz.prog 8 = some 24 := by kernel_rfl
@[simp] theorem tzeroD_8 : tzeroD Tryz.prog 8 = some (.agg ([.int .i64 0, .int .i64 0, .bool false, .int .u8 0])) := by kernel_rfl
@[simp] theorem foff_8_0 : foff Tryz.prog 8 0 = some 0 := by kernel_rfl
@[simp] theorem foff_8_1 : foff Tryz.prog 8 1 = some 1 := by kernel_rfl
@[simp] theorem foff_8_2 : foff Tryz.prog 8 2 = some 2 := by kernel_rfl
@[simp] theorem foff_8_3 : foff Tryz.prog 8 3 = some 3 := by kernel_rfl
@[simp] theorem fplace_8 : fplace Tryz.prog 8 = some [(0, 1), (1, 1), (2, 1), (3, 1)] := by kernel_rfl
@[simp] theorem tk_9 : tk Tryz.prog 9 = .str := by kernel_rfl
@[simp] theorem tsz_9 : tsz Tryz.prog 9 = some 1 := by kernel_rfl
@[simp] theorem tzero_9 : tzero Tryz.prog 9 = some ([.d (.str [])]) := by kernel_rfl
@[simp] theorem tbytes_9 : tbytes Tryz.prog 9 = some 16 := by kernel_rfl
@[simp] theorem tzeroD_9 : tzeroD Tryz.prog 9 = some (.str []) := by kernel_rfl
@[simp] theorem srcTy_9 : srcTy Tryz.prog 9 = true := by kernel_rfl
@[simp] theorem tk_10 : tk Tryz.prog 10 = .str := by kernel_rfl
@[simp] theorem tsz_10 : tsz Tryz.prog 10 = some 1 := by kernel_rfl
@[simp] theorem tzero_10 : tzero Tryz.prog 10 = some ([.d (.str [])]) := by kernel_rfl
@[simp] theorem tbytes_10 : tbytes Tryz.prog 10 = some 16 := by kernel_rfl
@[simp] theorem tzeroD_10 : tzeroD Tryz.prog 10 = some (.str []) := by kernel_rfl
@[simp] theorem srcTy_10 : srcTy Tryz.prog 10 = true := by kernel_rfl
@[simp] theorem tk_11 : tk Tryz.prog 11 = .str := by kernel_rfl
@[simp] theorem tsz_11 : tsz Tryz.prog 11 = some 1 := by kernel_rfl
@[simp] theorem tzero_11 : tzero Tryz.prog 11 = some ([.d (.str [])]) := by kernel_rfl
@[simp] theorem tbytes_11 : tbytes Tryz.prog 11 = some 16 := by kernel_rfl
@[simp] theorem tzeroD_11 : tzeroD Tryz.prog 11 = some (.str []) := by kernel_rfl
@[simp] theorem srcTy_11 : srcTy Tryz.prog 11 = true := by kernel_rfl
@[simp] theorem tk_12 : tk Tryz.prog 12 = .int .u64 := by kernel_rfl
@[simp] theorem tsz_12 : tsz Tryz.prog 12 = some 1 := by kernel_rfl
@[simp] theorem tzero_12 : tzero Tryz.prog 12 = some ([.d (.int .u64 0)]) := by kernel_rfl
@[simp] theorem tbytes_12 : tbytes Tryz.prog 12 = some 8 := by kernel_rfl
@[simp] theorem tzeroD_12 : tzeroD Tryz.prog 12 = some (.int .u64 0) := by kernel_rfl
@[simp] theorem tk_13 : tk Tryz.prog 13 = .struct := by kernel_rfl
@[simp] theorem tsz_13 : tsz Tryz.prog 13 = some 2 := by kernel_rfl
@[simp] theorem tzero_13 : tzero Tryz.prog 13 = some ([.d (.str []), .d (.int .u64 0)]) := by kernel_rfl
@[simp] theorem tbytes_13 : tbytes Tryz.prog 13 = some 24 := by kernel_rfl
@[simp] theorem tzeroD_13 : tzeroD Tryz.prog 13 = some (.agg ([.str [], .int .u64 0])) := by kernel_rfl
@[simp] theorem foff_13_0 : foff Tryz.prog 13 0 = some 0 := by kernel_rfl
@[simp] theorem foff_13_1 : foff Tryz.prog 13 1 = some 1 := by kernel_rfl
@[simp] theorem fplace_13 : fplace Tryz.prog 13 = some [(0, 1), (1, 1)] := by kernel_rfl
@[simp] theorem tk_14 : tk Tryz.prog 14 = .struct := by kernel_rfl
@[simp] theorem tsz_14 : tsz Tryz.prog 14 = some 2 := by kernel_rfl
@[simp] theorem tzero_14 : tzero Tryz.prog 14 = some ([.d (.str []), .d (.int .u64 0)]) := by kernel_rfl
@[simp] theorem tbytes_14 : tbytes Tryz.prog 14 = some 24 := by kernel_rfl
@[simp] theorem tzeroD_14 : tzeroD Tryz.prog 14 = some (.agg ([.str [], .int .u64 0])) := by kernel_rfl
@[simp] theorem foff_14_0 : foff Tryz.prog 14 0 = some 0 := by kernel_rfl
@[simp] theorem foff_14_1 : foff Tryz.prog 14 1 = some 1 := by kernel_rfl
@[simp] theorem fplace_14 : fplace Tryz.prog 14 = some [(0, 1), (1, 1)] := by kernel_rfl
@[simp] theorem tk_15 : tk Tryz.prog 15 = .ptr 157 := by kernel_rfl
@[simp] theorem tsz_15 : tsz Tryz.prog 15 = some 1 := by kernel_rfl
@[simp] theorem tk_16 : tk Tryz.prog 16 = .ptr 160 := by kernel_rfl
@[simp] theorem tsz_16 : tsz Tryz.prog 16 = some 1 := by kernel_rfl
@[simp] theorem tk_17 : tk Tryz.prog 17 = .ptr 169 := by kernel_rfl
@[simp] theorem tsz_17 : tsz Tryz.prog 17 = some 1 := by kernel_rfl
@[simp] theorem tk_18 : tk Tryz.prog 18 = .struct := by kernel_rfl
@[simp] theorem tsz_18 : tsz Tryz.prog 18 = some 1 := by kernel_rfl
@[simp] theorem tzero_18 : tzero Tryz.prog 18 = some ([.lit (.pointer none)]) := by kernel_rfl
@[simp] theorem foff_18_0 : foff Tryz.prog 18 0 = some 0 := by kernel_rfl
@[simp] theorem fplace_18 : fplace Tryz.prog 18 = some [(0, 1)] := by kernel_rfl
@[simp] theorem tk_19 : tk Tryz.prog 19 = .struct := by kernel_rfl
@[simp] theorem tsz_19 : tsz Tryz.prog 19 = some 1 := by kernel_rfl
@[simp] theorem tzero_19 : tzero Tryz.prog 19 = some ([.lit (.pointer none)]) := by kernel_rfl
@[simp] theorem foff_19_0 : foff Tryz.prog 19 0 = some 0 := by kernel_rfl
@[simp] theorem fplace_19 : fplace Tryz.prog 19 = some [(0, 1)] := by kernel_rfl
@[simp] theorem tk_20 : tk Tryz.prog 20 = .iface := by kernel_rfl
@[simp] theorem tsz_20 : tsz Tryz.prog 20 = some 1 := by kernel_rfl
@[simp] theorem tk_21 : tk Tryz.prog 21 = .int .i32 := by kernel_rfl
@[simp] theorem tsz_21 : tsz Tryz.prog 21 = some 1 := by kernel_rfl
@[simp] theorem tzero_21 : tzero Tryz.prog 21 = some ([.d (.int .i32 0)]) := by kernel_rfl
@[simp] theorem tbytes_21 : tbytes Tryz.prog 21 = some 4 := by kernel_rfl
@[simp] theorem tzeroD_21 : tzeroD Tryz.prog 21 = some (.int .i32 0) := by kernel_rfl
@[simp] theorem tk_22 : tk Tryz.prog 22 = .slice 38 := by kernel_rfl
@[simp] theorem tsz_22 : tsz Tryz.prog 22 = some 1 := by kernel_rfl
@[simp] theorem tzero_22 : tzero Tryz.prog 22 = some ([.lit (.slice none 0 0)]) := by kernel_rfl
@[simp] theorem tbytes_22 : tbytes Tryz.prog 22 = some 24 := by kernel_rfl
@[simp] theorem tzeroD_22 : tzeroD Tryz.prog 22 = some (.list []) := by kernel_rfl
@[simp] theorem srcTy_22 : srcTy Tryz.prog 22 = true := by kernel_rfl
@[simp] theorem tk_23 : tk Tryz.prog 23 = .struct := by kernel_rfl
@[simp] theorem tsz_23 : tsz Tryz.prog 23 = some 3 := by kernel_rfl
@[simp] theorem tzero_23 : tzero Tryz.prog 23 = some ([.lit (.slice none 0 0), .d (.int .i64 0), .d (.int .i64 0)]) := by kernel_rfl
@[simp] theorem tbytes_23 : tbytes Tryz.prog 23 = some 40 := by kernel_rfl
@[simp] theorem tzeroD_23 : tzeroD Tryz.prog 23 = some (.agg ([.list [], .int .i64 0, .int .i64 0])) := by kernel_rfl
@[simp] theorem foff_23_0 : foff Tryz.prog 23 0 = some 0 := by kernel_rfl
@[simp] theorem foff_23_1 : foff Tryz.prog 23 1 = some 1 := by kernel_rfl
@[simp] theorem foff_23_2 : foff Tryz.prog 23 2 = some 2 := by kernel_rfl
@[simp] theorem fplace_23 : fplace Tryz.prog 23 = some [(0, 1), (1, 1), (2, 1)] := by kernel_rfl
@[simp] theorem tk_24 : tk Tryz.prog 24 = .struct := by kernel_rfl
@[simp] theorem tsz_24 : tsz Tryz.prog 24 = some 3 := by kernel_rfl
@[simp] theorem tzero_24 : tzero Tryz.prog 24 = some ([.lit (.slice none 0 0), .d (.int .i64 0), .d (.int .i64 0)]) := by kernel_rfl
@[simp] theorem tbytes_24 : tbytes Tryz.prog 24 = some 40 := by kernel_rfl
@[simp] theorem tzeroD_24 : tzeroD Tryz.prog 24 = some (.agg ([.list [], .int .i64 0, .int .i64 0])) := by kernel_rfl
@[simp] theorem foff_24_0 : foff Tryz.prog 24 0 = some 0 := by kernel_rfl
@[simp] theorem foff_24_1 : foff Tryz.prog 24 1 = some 1 := by kernel_rfl
@[simp] theorem foff_24_2 : foff Tryz.prog 24 2 = some 2 := by kernel_rfl
@[simp] theorem fplace_24 : fplace Tryz.prog 24 = some [(0, 1), (1, 1), (2, 1)] := by kernel_rfl
@[simp] theorem tk_25 : tk Tryz.prog 25 = .slice 2 := by kernel_rfl
@[simp] theorem tsz_25 : tsz Tryz.prog 25 = some 1 := by kernel_rfl
@[simp] theorem tzero_25 : tzero Tryz.prog 25 = some ([.lit (.slice none 0 0)]) := by kernel_rfl
@[simp] theorem tbytes_25 : tbytes Tryz.prog 25 = some 24 := by kernel_rfl
@[simp] theorem tzeroD_25 : tzeroD Tryz.prog 25 = some (.list []) := by kernel_rfl
@[simp] theorem srcTy_25 : srcTy Tryz.prog 25 = true := by kernel_rfl
@[simp] theorem tk_26 : tk Tryz.prog 26 = .func := by kernel_rfl
@[simp] theorem tsz_26 : tsz Tryz.prog 26 = some 1 := by kernel_rfl
@[simp] theorem tk_27 : tk Tryz.prog 27 = .int .i64 := by kernel_rfl
@[simp] theorem tsz_27 : tsz Tryz.prog 27 = some 1 := by kernel_rfl
@[simp] theorem tzero_27 : tzero Tryz.prog 27 = some ([.d (.int .i64 0)]) := by kernel_rfl
@[simp] theorem tbytes_27 : tbytes Tryz.prog 27 = some 8 := by kernel_rfl
@[simp] theorem tzeroD_27 : tzeroD Tryz.prog 27 = some (.int .i64 0) := by kernel_rfl
@[simp] theorem tk_29 : tk Tryz.prog 29 = .func := by kernel_rfl
@[simp] theorem tsz_29 : tsz Tryz.prog 29 = some 1 := by kernel_rfl
@[simp] theorem tk_30 : tk Tryz.prog 30 = .func := by kernel_rfl
@[simp] theorem tsz_30 : tsz Tryz.prog 30 = some 1 := by kernel_rfl
@[simp] theorem tk_31 : tk Tryz.prog 31 = .func := by kernel_rfl
@[simp] theorem tsz_31 : tsz Tryz.prog 31 = some 1 := by kernel_rfl
@[simp] theorem tk_32 : tk Tryz.prog 32 = .func := by kernel_rfl
@[simp] theorem tsz_32 : tsz Tryz.prog 32 = some 1 := by kernel_rfl
@[simp] theorem tk_33 : tk Tryz.prog 33 = .struct := by kernel_rfl
@[simp] theorem tsz_33 : tsz Tryz.prog 33 = some 3 := by kernel_rfl
@[simp] theorem tzero_33 : tzero Tryz.prog 33 = some ([.lit (.slice none 0 0), .d (.int .i64 0), .d (.int .i64 0)]) := by kernel_rfl
@[simp] theorem tbytes_33 : tbytes Tryz.prog 33 = some 40 := by kernel_rfl
@[simp] theorem tzeroD_33 : tzeroD Tryz.prog 33 = some (.agg ([.list [], .int .i64 0, .int .i64 0])) := by kernel_rfl
@[simp] theorem foff_33_0 : foff Tryz.prog 33 0 = some 0 := by kernel_rfl
@[simp] theorem foff_33_1 : foff Tryz.prog 33 1 = some 1 := by kernel_rfl
@[simp] theorem foff_33_2 : foff Tryz.prog 33 2 = some 2 := by kernel_rfl
@[simp] theorem fplace_33 : fplace Tryz.prog 33 = some [(0, 1), (1, 1), (2, 1)] := by kernel_rfl
@[simp] theorem tk_34 : tk Tryz.prog 34 = .struct := by kernel_rfl
@[simp] theorem tsz_34 : tsz Tryz.prog 34 = some 3 := by kernel_rfl
@[simp] theorem tzero_34 : tzero Tryz.prog 34 = some ([.lit (.slice none 0 0), .d (.int .i64 0), .d (.int .i64 0)]) := by kernel_rfl
@[simp] theorem tbytes_34 : tbytes Tryz.prog 34 = some 40 := by kernel_rfl
@[simp] theorem tzeroD_34 : tzeroD Tryz.prog 34 = some (.agg ([.list [], .int .i64 0, .int .i64 0])) := by kernel_rfl
@[simp] theorem foff_34_0 : foff Tryz.prog 34 0 = some 0 := by kernel_rfl
@[simp] theorem foff_34_1 : foff Tryz.prog 34 1 = some 1 := by kernel_rfl
@[simp] theorem foff_34_2 : foff Tryz.prog 34 2 = some 2 := by kernel_rfl
@[simp] theorem fplace_34 : fplace Tryz.prog 34 = some [(0, 1), (1, 1), (2, 1)] := by kernel_rfl
@[simp] theorem tk_35 : tk Tryz.prog 35 = .func := by kernel_rfl
@[simp] theorem tsz_35 : tsz Tryz.prog 35 = some 1 := by kernel_rfl
@[simp] theorem tk_36 : tk Tryz.prog 36 = .func := by kernel_rfl
@[simp] theorem tsz_36 : tsz Tryz.prog 36 = some 1 := by kernel_rfl
@[simp] theorem tk_37 : tk Tryz.prog 37 = .struct := by kernel_rfl
@[simp] theorem tsz_37 : tsz Tryz.prog 37 = some 5 := by kernel_rfl
@[simp] theorem tzero_37 : tzero Tryz.prog 37 = some ([.d (.int .i64 0), .d (.int .i64 0), .d (.int .i64 0), .d (.int .i64 0), .d (.int .i64 0)]) := by kernel_rfl
@[simp] theorem tbytes_37 : tbytes Tryz.prog 37 = some 40 := by kernel_rfl
@[simp] theorem tzeroD_37 : tzeroD Tryz.prog 37 = some (.agg ([.int .i64 0, .int .i64 0, .int .i64 0, .int .i64 0, .int .i64 0])) := by kernel_rfl
@[simp] theorem foff_37_0 : foff Tryz.prog 37 0 = some 0 := by kernel_rfl
@[simp] theorem foff_37_1 : foff Tryz.prog 37 1 = some 1 := by kernel_rfl
@[simp] theorem foff_37_2 : foff Tryz.prog 37 2 = some 2 := by kernel_rfl
@[simp] theorem foff_37_3 : foff Tryz.prog 37 3 = some 3 := by kernel_rfl
@[simp] theorem foff_37_4 : foff Tryz.prog 37 4 = some 4 := by kernel_rfl
@[simp] theorem fplace_37 : fplace Tryz.prog 37 = some [(0, 1), (1, 1), (2, 1), (3, 1), (4, 1)] := by kernel_rfl
@[simp] theorem flat_37 : flatStruct Tryz.prog 37 = some [.int .i64, .int .i64, .int .i64, .int .i64, .int .i64] := by kernel_rfl
@[simp] theorem tk_38 : tk Tryz.prog 38 = .struct := by kernel_rfl
@[simp] theorem tsz_38 : tsz Tryz.prog 38 = some 5 := by kernel_rfl
@[simp] theorem tzero_38 : tzero Tryz.prog 38 = some ([.d (.int .i64 0), .d (.int .i64 0), .d (.int .i64 0), .d (.int .i64 0), .d (.int .i64 0)]) := by kernel_rfl
@[simp] theorem tbytes_38 : tbytes Tryz.prog 38 = some 40 := by kernel_rfl
@[simp] theorem tzeroD_38 : tzeroD Tryz.prog 38 = some (.agg ([.int .i64 0, .int .i64 0, .int .i64 0, .int .i64 0, .int .i64 0])) := by kernel_rfl
@[simp] theorem foff_38_0 : foff Tryz.prog 38 0 = some 0 := by kernel_rfl
@[simp] theorem foff_38_1 : foff Tryz.prog 38 1 = some 1 := by kernel_rfl
@[simp] theorem foff_38_2 : foff Tryz.prog 38 2 = some 2 := by kernel_rfl
@[simp] theorem foff_38_3 : foff Tryz.prog 38 3 = some 3 := by kernel_rfl
@[simp] theorem foff_38_4 : foff Tryz.prog 38 4 = some 4 := by kernel_rfl
@[simp] theorem fplace_38 : fplace Tryz.prog 38 = some [(0, 1), (1, 1), (2, 1), (3, 1), (4, 1)] := by kernel_rfl
@[simp] theorem flat_38 : flatStruct Tryz.prog 38 = some [.int .i64, .int .i64, .int .i64, .int .i64, .int .i64] := by kernel_rfl
@[simp] theorem tk_39 : tk Tryz.prog 39 = .func := by kernel_rfl
@[simp] theorem tsz_39 : tsz Tryz.prog 39 = some 1 := by kernel_rfl
@[simp] theorem tk_41 : tk Tryz.prog 41 = .func := by kernel_rfl
@[simp] theorem tsz_41 : tsz Tryz.prog 41 = some 1 := by kernel_rfl
@[simp] theorem tk_42 : tk Tryz.prog 42 = .slice 4 := by kernel_rfl
@[simp] theorem tsz_42 : tsz Tryz.prog 42 = some 1 := by kernel_rfl
@[simp] theorem tzero_42 : tzero Tryz.prog 42 = some ([.lit (.slice none 0 0)]) := by kernel_rfl
@[simp] theorem tbytes_42 : tbytes Tryz.prog 42 = some 24 := by kernel_rfl
@[simp] theorem tzeroD_42 : tzeroD Tryz.prog 42 = some (.list []) := by kernel_rfl
@[simp] theorem srcTy_42 : srcTy Tryz.prog 42 = true := by kernel_rfl
@[simp] theorem tk_43 : tk Tryz.prog 43 = .func := by kernel_rfl
@[simp] theorem tsz_43 : tsz Tryz.prog 43 = some 1 := by kernel_rfl
@[simp] theorem tk_44 : tk Tryz.prog 44 = .arr 70 4 := by kernel_rfl
@[simp] theorem tsz_44 : tsz Tryz.prog 44 = some 70 := by kernel_rfl
@[simp] theorem tzero_44 : tzero Tryz.prog 44 = some (List.replicate 70 (.d (.bool false))) := by kernel_rfl
@[simp] theorem tbytes_44 : tbytes Tryz.prog 44 = some 70 := by kernel_rfl
@[simp] theorem tzeroD_44 : tzeroD Tryz.prog 44 = some (.agg (List.replicate 70 (.bool false))) := by kernel_rfl
@[simp] theorem fplace_44 : fplace Tryz.prog 44 = none := by kernel_rfl
@[simp] theorem tk_46 : tk Tryz.prog 46 = .func := by kernel_rfl
@[simp] theorem tsz_46 : tsz Tryz.prog 46 = some 1 := by kernel_rfl
@[simp] theorem tk_47 : tk Tryz.prog 47 = .ptr 49 := by kernel_rfl
@[simp] theorem tsz_47 : tsz Tryz.prog 47 = some 1 := by kernel_rfl
@[simp] theorem tk_48 : tk Tryz.prog 48 = .struct := by kernel_rfl
@[simp] theorem tsz_48 : tsz Tryz.prog 48 = some 5 := by kernel_rfl
@[simp] theorem tzero_48 : tzero Tryz.prog 48 = some ([.lit (.slice none 0 0), .d (.int .i64 0), .d (.int .i64 0), .lit (.slice none 0 0), .lit (.slice none 0 0)]) := by kernel_rfl
@[simp] theorem tbytes_48 : tbytes Tryz.prog 48 = some 88 := by kernel_rfl
@[simp] theorem tzeroD_48 : tzeroD Tryz.prog 48 = some (.agg ([.list [], .int .i64 0, .int .i64 0, .list [], .list []])) := by kernel_rfl
@[simp] theorem foff_48_0 : foff Tryz.prog 48 0 = some 0 := by kernel_rfl
@[simp] theorem foff_48_1 : foff Tryz.prog 48 1 = some 3 := by kernel_rfl
@[simp] theorem foff_48_2 : foff Tryz.prog 48 2 = some 4 := by kernel_rfl
@[simp] theorem fplace_48 : fplace Tryz.prog 48 = some [(0, 3), (3, 1), (4, 1)] := by kernel_rfl
@[simp] theorem tk_49 : tk Tryz.prog 49 = .struct := by kernel_rfl
@[simp] theorem tsz_49 : tsz Tryz.prog 49 = some 5 := by kernel_rfl
@[simp] theorem tzero_49 : tzero Tryz.prog 49 = some ([.lit (.slice none 0 0), .d (.int .i64 0), .d (.int .i64 0), .lit (.slice none 0 0), .lit (.slice none 0 0)]) := by kernel_rfl
@[simp] theorem tbytes_49 : tbytes Tryz.prog 49 = some 88 := by kernel_rfl
@[simp] theorem tzeroD_49 : tzeroD Tryz.prog 49 = some (.agg ([.list [], .int .i64 0, .int .i64 0, .list [], .list []])) := by kernel_rfl
@[simp] theorem foff_49_0 : foff Tryz.prog 49 0 = some 0 := by kernel_rfl
@[simp] theorem foff_49_1 : foff Tryz.prog 49 1 = some 3 := by kernel_rfl
@[simp] theorem foff_49_2 : foff Tryz.prog 49 2 = some 4 := by kernel_rfl
@[simp] theorem fplace_49 : fplace Tryz.prog 49 = some [(0, 3), (3, 1), (4, 1)] := by kernel_rfl
@[simp] theorem tk_50 : tk Tryz.prog 50 = .func := by kernel_rfl
@[simp] theorem tsz_50 : tsz Tryz.prog 50 = some 1 := by kernel_rfl
@[simp] theorem tk_51 : tk Tryz.prog 51 = .func := by kernel_rfl
@[simp] theorem tsz_51 : tsz Tryz.prog 51 = some 1 := by kernel_rfl
@[simp] theorem tk_52 : tk Tryz.prog 52 = .ptr 55 := by kernel_rfl
@[simp] theorem tsz_52 : tsz Tryz.prog 52 = some 1 := by kernel_rfl
@[simp] theorem tk_53 : tk Tryz.prog 53 = .arr 64 2 := by kernel_rfl
@[simp] theorem tsz_53 : tsz Tryz.prog 53 = some 64 := by kernel_rfl
@[simp] theorem tzero_53 : tzero Tryz.prog 53 = some (List.replicate 64 (.d (.int .i64 0))) := by kernel_rfl
@[simp] theorem tbytes_53 : tbytes Tryz.prog 53 = some 512 := by kernel_rfl
@[simp] theorem tzeroD_53 : tzeroD Tryz.prog 53 = some (.agg (List.replicate 64 (.int .i64 0))) := by kernel_rfl
@[simp] theorem fplace_53 : fplace Tryz.prog 53 = none := by kernel_rfl
@[simp] theorem tk_54 : tk Tryz.prog 54 = .struct := by kernel_rfl
@[simp] theorem tsz_54 : tsz Tryz.prog 54 = some 72 := by kernel_rfl
@[simp] theorem tzero_54 : tzero Tryz.prog 54 = some ([.lit (.slice none 0 0), .d (.int .i64 0), .d (.int .i64 0), .lit (.slice none 0 0), .d (.int .i64 0), .d (.int .i64 0), .d (.int .i64 0), .d (.int .i64 0), .d (.int .i64 0), .d (.int .i64 0), .d (.int .i64 0), .d (.int .i64 0), .d (.int .i64 0), .d (.int .i64 0), .d (.int .i64 0), .d (.int .i64 0), .d (.int .i64 0), .d (.int .i64 0), .d (.int .i64 0), .d (.int .i64 0), .d (.int .i64 0), .d (.int .i64 0), .d (.int .i64 0), .d (.int .i64 0), .d (.int .i64 0), .d (.int .i64 0), .d (.int .i64 0), .d (.int .i64 0), .d (.int .i64 0), .d (.int .i64 0), .d (.int .i64 0), .d (.int .i64 0), .d (.int .i64 0), .d (.int .i64 0), .d (.int .i64 0), .d (.int .i64 0), .d (.int .i64 0), .d (.int .i64 0), .d (.int .i64 0), .d (.int .i64 0), .d (.int .i64 0), .d (.int .i64 0), .d (.int .i64 0), .d (.int .i64 0), .d (.int .i64 0), .d (.int .i64 0), .d (.int .i64 0), .d (.int .i64 0), .d (.int .i64 0), .d (.int .i64 0), .d (.int .i64 0), .d (.int .i64 0), .d (.int .i64 0), .d (.int .i64 0), .d (.int .i64 0), .d (.int .i64 0), .d (.int .i64 0), .d (.int .i64 0), .d (.int .i64 0), .d (.int .i64 0), .d (.int .i64 0), .d (.int .i64 0), .d (.int .i64 0), .d (.int .i64 0), .d (.int .i64 0), .d (.int .i64 0), .d (.int .i64 0), .d (.int .i64 0), .d (.int .i64 0), .d (.int .i64 0), .d (.int .i64 0), .d (.int .i64 0)]) := by kernel_rfl
@[simp] theorem tbytes_54 : tbytes Tryz.prog 54 = some 608 := by kernel_rfl
@[simp] theorem tzeroD_54 : tzeroD Tryz.prog 54 = some (.agg ([.list [], .int .i64 0, .int .i64 0, .list [], .int .i64 0, .int .i64 0, .int .i64 0, .int .i64 0, .int .i64 0, .int .i64 0, .int .i64 0, .int .i64 0, .int .i64 0, .int .i64 0, .int .i64 0, .int .i64 0, .int .i64 0, .int .i64 0, .int .i64 0, .int .i64 0, .int .i64 0, .int .i64 0, .int .i64 0, .int .i64 0, .int .i64 0, .int .i64 0, .int .i64 0, .int .i64 0, .int .i64 0, .int .i64 0, .int .i64 0, .int .i64 0, .int .i64 0, .int .i64 0, .int .i64 0, .int .i64 0, .int .i64 0, .int .i64 0, .int .i64 0, .int .i64 0, .int .i64 0, .int .i64 0, .int .i64 0, .int .i64 0, .int .i64 0, .int .i64 0, .int .i64 0, .int .i64 0, .int .i64 0, .int .i64 0, .int .i64 0, .int .i64 0, .int .i64 0, .int .i64 0, .int .i64 0, .int .i64 0, .int .i64 0, .int .i64 0, .int .i64 0, .int .i64 0, .int .i64 0, .int .i64 0, .int .i64 0, .int .i64 0, .int .i64 0, .int .i64 0, .int .i64 0, .int .i64 0, .int .i64 0, .int .i64 0, .int .i64 0, .int .i64 0])) := by kernel_rfl
@[simp] theorem foff_54_0 : foff Tryz.prog 54 0 = some 0 := by kernel_rfl
@[simp] theorem foff_54_1 : foff Tryz.prog 54 1 = some 3 := by kernel_rfl
@[simp] theorem foff_54_2 : foff Tryz.prog 54 2 = some 4 := by kernel_rfl
@[simp] theorem foff_54_3 : foff Tryz.prog 54 3 = some 68 := by kernel_rfl
@[simp] theorem foff_54_4 : foff Tryz.prog 54 4 = some 69 := by kernel_rfl
@[simp] theorem foff_54_5 : foff Tryz.prog 54 5 = some 70 := by kernel_rfl
@[simp] theorem foff_54_6 : foff Tryz.prog 54 6 = some 71 := by kernel_rfl
@[simp] theorem fplace_54 : fplace Tryz.prog 54 = some [(0, 3), (3, 1), (4, 64), (68, 1), (69, 1), (70, 1), (71, 1)] := by kernel_rfl
@[simp] theorem tk_55 : tk Tryz.prog 55 = .struct := by kernel_rfl
@[simp] theorem tsz_55 : tsz Tryz.prog 55 = some 72 := by kernel_rfl
@[simp] theorem tzero_55 : tzero Tryz.prog 55 = some ([.lit (.slice none 0 0), .d (.int .i64 0), .d (.int .i64 0), .lit (.slice none 0 0), .d (.int .i64 0), .d (.int .i64 0), .d (.int .i64 0), .d (.int .i64 0), .d (.int .i64 0), .d (.int .i64 0), .d (.int .i64 0), .d (.int .i64 0), .d (.int .i64 0), .d (.int .i64 0), .d (.int .i64 0), .d (.int .i64 0), .d (.int .i64 0), .d (.int .i64 0), .d (.int .i64 0), .d (.int .i64 0), .d (.int .i64 0), .d (.int .i64 0), .d (.int .i64 0), .d (.int .i64 0), .d (.int .i64 0), .d (.int .i64 0), .d (.int .i64 0), .d (.int .i64 0), .d (.int .i64 0), .d (.int .i64 0), .d (.int .i64 0), .d (.int .i64 0), .d (.int .i64 0), .d (.int .i64 0), .d (.int .i64 0), .d (.int .i64 0), .d (.int .i64 0), .d (.int .i64 0), .d (.int .i64 0), .d (.int .i64 0), .d (.int .i64 0), .d (.int .i64 0), .d (.int .i64 0), .d (.int .i64 0), .d (.int .i64 0), .d (.int .i64 0), .d (.int .i64 0), .d (.int .i64 0), .d (.int .i64 0), .d (.int .i64 0), .d (.int .i64 0), .d (.int .i64 0), .d (.int .i64 0), .d (.int .i64 0), .d (.int .i64 0), .d (.int .i64 0), .d (.int .i64 0), .d (.int .i64 0), .d (.int .i64 0), .d (.int .i64 0), .d (.int .i64 0), .d (.int .i64 0), .d (.int .i64 0), .d (.int .i64 0), .d (.int .i64 0), .d (.int .i64 0), .d (.int .i64 0), .d (.int .i64 0), .d (.int .i64 0), .d (.int .i64 0), .d (.int .i64 0), .d (.int .i64 0)]) := by kernel_rfl
@[simp] theorem tbytes_55 : tbytes Tryz.prog 55 = some 608 := by kernel_rfl
@[simp] theorem tzeroD_55 : tzeroD Tryz.prog 55 = some (.agg ([.list [], .int .i64 0, .int .i64 0, .list [], .int .i64 0, .int .i64 0, .int .i64 0, .int .i64 0, .int .i64 0, .int .i64 0, .int .i64 0, .int .i64 0, .int .i64 0, .int .i64 0, .int .i64 0, .int .i64 0, .int .i64 0, .int .i64 0, .int .i64 0, .int .i64 0, .int .i64 0, .int .i64 0, .int .i64 0, .int .i64 0, .int .i64 0, .int .i64 0, .int .i64 0, .int .i64 0, .int .i64 0, .int .i64 0, .int .i64 0, .int .i64 0, .int .i64 0, .int .i64 0, .int .i64 0, .int .i64 0, .int .i64 0, .int .i64 0, .int .i64 0, .int .i64 0, .int .i64 0, .int .i64 0, .int .i64 0, .int .i64 0, .int .i64 0, .int .i64 0, .int .i64 0, .int .i64 0, .int .i64 0, .int .i64 0, .int .i64 0, .int .i64 0, .int .i64 0, .int .i64 0, .int .i64 0, .int .i64 0, .int .i64 0, .int .i64 0, .int .i64 0, .int .i64 0, .int .i64 0, .int .i64 0, .int .i64 0, .int .i64 0, .int .i64 0, .int .i64 0, .int .i64 0, .int .i64 0, .int .i64 0, .int .i64 0, .int .i64 0, .int .i64 0])) := by kernel_rfl
@[simp] theorem foff_55_0 : foff Tryz.prog 55 0 = some 0 := by kernel_rfl
@[simp] theorem foff_55_1 : foff Tryz.prog 55 1 = some 3 := by kernel_rfl
@[simp] theorem foff_55_2 : foff Tryz.prog 55 2 = some 4 := by kernel_rfl
@[simp] theorem foff_55_3 : foff Tryz.prog 55 3 = some 68 := by kernel_rfl
@[simp] theorem foff_55_4 : foff Tryz.prog 55 4 = some 69 := by kernel_rfl
@[simp] theorem foff_55_5 : foff Tryz.prog 55 5 = some 70 := by kernel_rfl
@[simp] theorem foff_55_6 : foff Tryz.prog 55 6 = some 71 := by kernel_rfl
@[simp] theorem fplace_55 : fplace Tryz.prog 55 = some [(0, 3), (3, 1), (4, 64), (68, 1), (69, 1), (70, 1), (71, 1)] := by kernel_rfl
@[simp] theorem tk_56 : tk Tryz.prog 56 = .func := by kernel_rfl
@[simp] theorem tsz_56 : tsz Tryz.prog 56 = some 1 := by kernel_rfl
@[simp] theorem tk_57 : tk Tryz.prog 57 = .func := by kernel_rfl
@[simp] theorem tsz_57 : tsz Tryz.prog 57 = some 1 := by kernel_rfl
@[simp] theorem tk_58 : tk Tryz.prog 58 = .ptr 60 := by kernel_rfl
@[simp] theorem tsz_58 : tsz Tryz.prog 58 = some 1 := by kernel_rfl
@[simp] theorem tk_59 : tk Tryz.prog 59 = .struct := by kernel_rfl
@[simp] theorem tsz_59 : tsz Tryz.prog 59 = some 5 := by kernel_rfl
@[simp] theorem tzero_59 : tzero Tryz.prog 59 = some ([.lit (.slice none 0 0), .lit (.slice none 0 0), .d (.int .i64 0), .d (.int .i64 0), .d (.int .i64 0)]) := by kernel_rfl
@[simp] theorem tbytes_59 : tbytes Tryz.prog 59 = some 72 := by kernel_rfl
@[simp] theorem tzeroD_59 : tzeroD Tryz.prog 59 = some (.agg ([.list [], .list [], .int .i64 0, .int .i64 0, .int .i64 0])) := by kernel_rfl
@[simp] theorem foff_59_0 : foff Tryz.prog 59 0 = some 0 := by kernel_rfl
@[simp] theorem foff_59_1 : foff Tryz.prog 59 1 = some 1 := by kernel_rfl
@[simp] theorem foff_59_2 : foff Tryz.prog 59 2 = some 2 := by kernel_rfl
@[simp] theorem foff_59_3 : foff Tryz.prog 59 3 = some 3 := by kernel_rfl
@[simp] theorem foff_59_4 : foff Tryz.prog 59 4 = some 4 := by kernel_rfl
@[simp] theorem fplace_59 : fplace Tryz.prog 59 = some [(0, 1), (1, 1), (2, 1), (3, 1), (4, 1)] := by kernel_rfl
@[simp] theorem tk_60 : tk Tryz.prog 60 = .struct := by kernel_rfl
@[simp] theorem tsz_60 : tsz Tryz.prog 60 = some 5 := by kernel_rfl
@[simp] theorem tzero_60 : tzero Tryz.prog 60 = some ([.lit (.slice none 0 0), .lit (.slice none 0 0), .d (.int .i64 0), .d (.int .i64 0), .d (.int .i64 0)]) := by kernel_rfl
@[simp] theorem tbytes_60 : tbytes Tryz.prog 60 = some 72 := by kernel_rfl
@[simp] theorem tzeroD_60 : tzeroD Tryz.prog 60 = some (.agg ([.list [], .list [], .int .i64 0, .int .i64 0, .int .i64 0])) := by kernel_rfl
@[simp] theorem foff_60_0 : foff Tryz.prog 60 0 = some 0 := by kernel_rfl
@[simp] theorem foff_60_1 : foff Tryz.prog 60 1 = some 1 := by kernel_rfl
@[simp] theorem foff_60_2 : foff Tryz.prog 60 2 = some 2 := by kernel_rfl
@[simp] theorem foff_60_3 : foff Tryz.prog 60 3 = some 3 := by kernel_rfl
@[simp] theorem foff_60_4 : foff Tryz.prog 60 4 = some 4 := by kernel_rfl
@[simp] theorem fplace_60 : fplace Tryz.prog 60 = some [(0, 1), (1, 1), (2, 1), (3, 1), (4, 1)] := by kernel_rfl
@[simp] theorem tk_61 : tk Tryz.prog 61 = .func := by kernel_rfl
@[simp] theorem tsz_61 : tsz Tryz.prog 61 = some 1 := by kernel_rfl
@[simp] theorem tk_62 : tk Tryz.prog 62 = .func := by kernel_rfl
@[simp] theorem tsz_62 : tsz Tryz.prog 62 = some 1 := by kernel_rfl
@[simp] theorem tk_63 : tk Tryz.prog 63 = .func := by kernel_rfl
@[simp] theorem tsz_63 : tsz Tryz.prog 63 = some 1 := by kernel_rfl
@[simp] theorem tk_64 : tk Tryz.prog 64 = .func := by kernel_rfl
@[simp] theorem tsz_64 : tsz Tryz.prog 64 = some 1 := by kernel_rfl
@[simp] theorem tk_65 : tk Tryz.prog 65 = .func := by kernel_rfl
@[simp] theorem tsz_65 : tsz Tryz.prog 65 = some 1 := by kernel_rfl
@[simp] theorem tk_66 : tk Tryz.prog 66 = .func := by kernel_rfl
@[simp] theorem tsz_66 : tsz Tryz.prog 66 = some 1 := by kernel_rfl
@[simp] theorem tk_67 : tk Tryz.prog 67 = .slice 88 := by kernel_rfl
@[simp] theorem tsz_67 : tsz Tryz.prog 67 = some 1 := by kernel_rfl
@[simp] theorem tzero_67 : tzero Tryz.prog 67 = some ([.lit (.slice none 0 0)]) := by kernel_rfl
@[simp] theorem tbytes_67 : tbytes Tryz.prog 67 = some 24 := by kernel_rfl
@[simp] theorem tzeroD_67 : tzeroD Tryz.prog 67 = some (.list []) := by kernel_rfl
@[simp] theorem srcTy_67 : srcTy Tryz.prog 67 = true := by kernel_rfl
@[simp] theorem tk_68 : tk Tryz.prog 68 = .func := by kernel_rfl
@[simp] theorem tsz_68 : tsz Tryz.prog 68 = some 1 := by kernel_rfl
@[simp] theorem tk_69 : tk Tryz.prog 69 = .func := by kernel_rfl
@[simp] theorem tsz_69 : tsz Tryz.prog 69 = some 1 := by kernel_rfl
@[simp] theorem tk_70 : tk Tryz.prog 70 = .slice 3 := by kernel_rfl
@[simp] theorem tsz_70 : tsz Tryz.prog 70 = some 1 := by kernel_rfl
@[simp] theorem tzero_70 : tzero Tryz.prog 70 = some ([.lit (.slice none 0 0)]) := by kernel_rfl
@[simp] theorem tbytes_70 : tbytes Tryz.prog 70 = some 24 := by kernel_rfl
@[simp] theorem tzeroD_70 : tzeroD Tryz.prog 70 = some (.list []) := by kernel_rfl
@[simp] theorem srcTy_70 : srcTy Tryz.prog 70 = true := by kernel_rfl
@[simp] theorem tk_71 : tk Tryz.prog 71 = .func := by kernel_rfl
@[simp] theorem tsz_71 : tsz Tryz.prog 71 = some 1 := by kernel_rfl
@[simp] theorem tk_72 : tk Tryz.prog 72 = .func := by kernel_rfl
@[simp] theorem tsz_72 : tsz Tryz.prog 72 = some 1 := by kernel_rfl
@[simp] theorem tk_73 : tk Tryz.prog 73 = .func := by kernel_rfl
@[simp] theorem tsz_73 : tsz Tryz.prog 73 = some 1 := by kernel_rfl
@[simp] theorem tk_75 : tk Tryz.prog 75 = .func := by kernel_rfl
@[simp] theorem tsz_75 : tsz Tryz.prog 75 = some 1 := by kernel_rfl
@[simp] theorem tk_76 : tk Tryz.prog 76 = .func := by kernel_rfl
@[simp] theorem tsz_76 : tsz Tryz.prog 76 = some 1 := by kernel_rfl
@[simp] theorem tk_77 : tk Tryz.prog 77 = .func := by kernel_rfl
@[simp] theorem tsz_77 : tsz Tryz.prog 77 = some 1 := by kernel_rfl
@[simp] theorem tk_78 : tk Tryz.prog 78 = .func := by kernel_rfl
@[simp] theorem tsz_78 : tsz Tryz.prog 78 = some 1 := by kernel_rfl
@[simp] theorem tk_80 : tk Tryz.prog 80 = .func := by kernel_rfl
@[simp] theorem tsz_80 : tsz Tryz.prog 80 = some 1 := by kernel_rfl
@[simp] theorem tk_81 : tk Tryz.prog 81 = .func := by kernel_rfl
@[simp] theorem tsz_81 : tsz Tryz.prog 81 = some 1 := by kernel_rfl
@[simp] theorem tk_82 : tk Tryz.prog 82 = .slice 86 := by kernel_rfl
@[simp] theorem tsz_82 : tsz Tryz.prog 82 = some 1 := by kernel_rfl
@[simp] theorem tzero_82 : tzero Tryz.prog 82 = some ([.lit (.slice none 0 0)]) := by kernel_rfl
@[simp] theorem tbytes_82 : tbytes Tryz.prog 82 = some 24 := by kernel_rfl
@[simp] theorem tzeroD_82 : tzeroD Tryz.prog 82 = some (.list []) := by kernel_rfl
@[simp] theorem srcTy_82 : srcTy Tryz.prog 82 = true := by kernel_rfl
@[simp] theorem tk_83 : tk Tryz.prog 83 = .func := by kernel_rfl
@[simp] theorem tsz_83 : tsz Tryz.prog 83 = some 1 := by kernel_rfl
@[simp] theorem tk_84 : tk Tryz.prog 84 = .slice 9 := by kernel_rfl
@[simp] theorem tsz_84 : tsz Tryz.prog 84 = some 1 := by kernel_rfl
@[simp] theorem tzero_84 : tzero Tryz.prog 84 = some ([.lit (.slice none 0 0)]) := by kernel_rfl
@[simp] theorem tbytes_84 : tbytes Tryz.prog 84 = some 24 := by kernel_rfl
@[simp] theorem tzeroD_84 : tzeroD Tryz.prog 84 = some (.list []) := by kernel_rfl
@[simp] theorem srcTy_84 : srcTy Tryz.prog 84 = true := by kernel_rfl
@[simp] theorem tk_85 : tk Tryz.prog 85 = .struct := by kernel_rfl
@[simp] theorem tsz_85 : tsz Tryz.prog 85 = some 4 := by kernel_rfl
@[simp] theorem tzero_85 : tzero Tryz.prog 85 = some ([.d (.int .i64 0), .d (.str []), .d (.str []), .lit (.slice none 0 0)]) := by kernel_rfl
@[simp] theorem tbytes_85 : tbytes Tryz.prog 85 = some 64 := by kernel_rfl
@[simp] theorem tzeroD_85 : tzeroD Tryz.prog 85 = some (.agg ([.int .i64 0, .str [], .str [], .list []])) := by kernel_rfl
@[simp] theorem foff_85_0 : foff Tryz.prog 85 0 = some 0 := by kernel_rfl
@[simp] theorem foff_85_1 : foff Tryz.prog 85 1 = some 1 := by kernel_rfl
@[simp] theorem foff_85_2 : foff Tryz.prog 85 2 = some 2 := by kernel_rfl
@[simp] theorem foff_85_3 : foff Tryz.prog 85 3 = some 3 := by kernel_rfl
@[simp] theorem fplace_85 : fplace Tryz.prog 85 = some [(0, 1), (1, 1), (2, 1), (3, 1)] := by kernel_rfl
@[simp] theorem tk_86 : tk Tryz.prog 86 = .struct := by kernel_rfl
@[simp] theorem tsz_86 : tsz Tryz.prog 86 = some 4 := by kernel_rfl
@[simp] theorem tzero_86 : tzero Tryz.prog 86 = some ([.d (.int .i64 0), .d (.str []), .d (.str []), .lit (.slice none 0 0)]) := by kernel_rfl
@[simp] theorem tbytes_86 : tbytes Tryz.prog 86 = some 64 := by kernel_rfl
@[simp] theorem tzeroD_86 : tzeroD Tryz.prog 86 = some (.agg ([.int .i64 0, .str [], .str [], .list []])) := by kernel_rfl
@[simp] theorem foff_86_0 : foff Tryz.prog 86 0 = some 0 := by kernel_rfl
@[simp] theorem foff_86_1 : foff Tryz.prog 86 1 = some 1 := by kernel_rfl
@[simp] theorem foff_86_2 : foff Tryz.prog 86 2 = some 2 := by kernel_rfl
@[simp] theorem foff_86_3 : foff Tryz.prog 86 3 = some 3 := by kernel_rfl
@[simp] theorem fplace_86 : fplace Tryz.prog 86 = some [(0, 1), (1, 1), (2, 1), (3, 1)] := by kernel_rfl
@[simp] theorem tk_87 : tk Tryz.prog 87 = .struct := by kernel_rfl
@[simp] theorem tsz_87 : tsz Tryz.prog 87 = some 3 := by kernel_rfl
@[simp] theorem tzero_87 : tzero Tryz.prog 87 = some ([.d (.str []), .d (.int .i64 0), .d (.bool false)]) := by kernel_rfl
@[simp] theorem tbytes_87 : tbytes Tryz.prog 87 = some 32 := by kernel_rfl
@[simp] theorem tzeroD_87 : tzeroD Tryz.prog 87 = some (.agg ([.str [], .int .i64 0, .bool false])) := by kernel_rfl
@[simp] theorem foff_87_0 : foff Tryz.prog 87 0 = some 0 := by kernel_rfl
@[simp] theorem foff_87_1 : foff Tryz.prog 87 1 = some 1 := by kernel_rfl
@[simp] theorem foff_87_2 : foff Tryz.prog 87 2 = some 2 := by kernel_rfl
@[simp] theorem fplace_87 : fplace Tryz.prog 87 = some [(0, 1), (1, 1), (2, 1)] := by kernel_rfl
@[simp] theorem flat_87 : flatStruct Tryz.prog 87 = some [.str, .int .i64, .bool] := by kernel_rfl
@[simp] theorem tk_88 : tk Tryz.prog 88 = .struct := by kernel_rfl
@[simp] theorem tsz_88 : tsz Tryz.prog 88 = some 3 := by kernel_rfl
@[simp] theorem tzero_88 : tzero Tryz.prog 88 = some ([.d (.str []), .d (.int .i64 0), .d (.bool false)]) := by kernel_rfl
@[simp] theorem tbytes_88 : tbytes Tryz.prog 88 = some 32 := by kernel_rfl
@[simp] theorem tzeroD_88 : tzeroD Tryz.prog 88 = some (.agg ([.str [], .int .i64 0, .bool false])) := by kernel_rfl
@[simp] theorem foff_88_0 : foff Tryz.prog 88 0 = some 0 := by kernel_rfl
@[simp] theorem foff_88_1 : foff Tryz.prog 88 1 = some 1 := by kernel_rfl
@[simp] theorem foff_88_2 : foff Tryz.prog 88 2 = some 2 := by kernel_rfl
@[simp] theorem fplace_88 : fplace Tryz.prog 88 = some [(0, 1), (1, 1), (2, 1)] := by kernel_rfl
@[simp] theorem flat_88 : flatStruct Tryz.prog 88 = some [.str, .int .i64, .bool] := by kernel_rfl
@[simp] theorem tk_89 : tk Tryz.prog 89 = .func := by kernel_rfl
@[simp] theorem tsz_89 : tsz Tryz.prog 89 = some 1 := by kernel_rfl
@[simp] theorem tk_90 : tk Tryz.prog 90 = .func := by kernel_rfl
@[simp] theorem tsz_90 : tsz Tryz.prog 90 = some 1 := by kernel_rfl
@[simp] theorem tk_91 : tk Tryz.prog 91 = .func := by kernel_rfl
@[simp] theorem tsz_91 : tsz Tryz.prog 91 = some 1 := by kernel_rfl
@[simp] theorem tk_92 : tk Tryz.prog 92 = .func := by kernel_rfl
@[simp] theorem tsz_92 : tsz Tryz.prog 92 = some 1 := by kernel_rfl
@[simp] theorem tk_93 : tk Tryz.prog 93 = .struct := by kernel_rfl
@[simp] theorem tsz_93 : tsz Tryz.prog 93 = some 5 := by kernel_rfl
@[simp] theorem tzero_93 : tzero Tryz.prog 93 = some ([.d (.int .i64 0), .d (.str []), .d (.str []), .d (.str []), .d (.int .i64 0)]) := by kernel_rfl
@[simp] theorem tbytes_93 : tbytes Tryz.prog 93 = some 64 := by kernel_rfl
@[simp] theorem tzeroD_93 : tzeroD Tryz.prog 93 = some (.agg ([.int .i64 0, .str [], .str [], .str [], .int .i64 0])) := by kernel_rfl
@[simp] theorem foff_93_0 : foff Tryz.prog 93 0 = some 0 := by kernel_rfl
@[simp] theorem foff_93_1 : foff Tryz.prog 93 1 = some 1 := by kernel_rfl
@[simp] theorem foff_93_2 : foff Tryz.prog 93 2 = some 2 := by kernel_rfl
@[simp] theorem foff_93_3 : foff Tryz.prog 93 3 = some 3 := by kernel_rfl
@[simp] theorem foff_93_4 : foff Tryz.prog 93 4 = some 4 := by kernel_rfl
@[simp] theorem fplace_93 : fplace Tryz.prog 93 = some [(0, 1), (1, 1), (2, 1), (3, 1), (4, 1)] := by kernel_rfl
@[simp] theorem flat_93 : flatStruct Tryz.prog 93 = some [.int .i64, .str, .str, .str, .int .i64] := by kernel_rfl
@[simp] theorem tk_94 : tk Tryz.prog 94 = .struct := by kernel_rfl
@[simp] theorem tsz_94 : tsz Tryz.prog 94 = some 5 := by kernel_rfl
@[simp] theorem tzero_94 : tzero Tryz.prog 94 = some ([.d (.int .i64 0), .d (.str []), .d (.str []), .d (.str []), .d (.int .i64 0)]) := by kernel_rfl
@[simp] theorem tbytes_94 : tbytes Tryz.prog 94 = some 64 := by kernel_rfl
@[simp] theorem tzeroD_94 : tzeroD Tryz.prog 94 = some (.agg ([.int .i64 0, .str [], .str [], .str [], .int .i64 0])) := by kernel_rfl
@[simp] theorem foff_94_0 : foff Tryz.prog 94 0 = some 0 := by kernel_rfl
@[simp] theorem foff_94_1 : foff Tryz.prog 94 1 = some 1 := by kernel_rfl
@[simp] theorem foff_94_2 : foff Tryz.prog 94 2 = some 2 := by kernel_rfl
@[simp] theorem foff_94_3 : foff Tryz.prog 94 3 = some 3 := by kernel_rfl
@[simp] theorem foff_94_4 : foff Tryz.prog 94 4 = some 4 := by kernel_rfl
@[simp] theorem fplace_94 : fplace Tryz.prog 94 = some [(0, 1), (1, 1), (2, 1), (3, 1), (4, 1)] := by kernel_rfl
@[simp] theorem flat_94 : flatStruct Tryz.prog 94 = some [.int .i64, .str, .str, .str, .int .i64] := by kernel_rfl
@[simp] theorem tk_96 : tk Tryz.prog 96 = .func := by kernel_rfl
@[simp] theorem tsz_96 : tsz Tryz.prog 96 = some 1 := by kernel_rfl
@[simp] theorem tk_97 : tk Tryz.prog 97 = .func := by kernel_rfl
@[simp] theorem tsz_97 : tsz Tryz.prog 97 = some 1 := by kernel_rfl
@[simp] theorem tk_98 : tk Tryz.prog 98 = .func := by kernel_rfl
@[simp] theorem tsz_98 : tsz Tryz.prog 98 = some 1 := by kernel_rfl
@[simp] theorem tk_100 : tk Tryz.prog 100 = .func := by kernel_rfl
@[simp] theorem tsz_100 : tsz Tryz.prog 100 = some 1 := by kernel_rfl
@[simp] theorem tk_101 : tk Tryz.prog 101 = .arr 6 4 := by kernel_rfl
@[simp] theorem tsz_101 : tsz Tryz.prog 101 = some 6 := by kernel_rfl
@[simp] theorem tzero_101 : tzero Tryz.prog 101 = some ([.d (.bool false), .d (.bool false), .d (.bool false), .d (.bool false), .d (.bool false), .d (.bool false)]) := by kernel_rfl
@[simp] theorem tbytes_101 : tbytes Tryz.prog 101 = some 6 := by kernel_rfl
@[simp] theorem tzeroD_101 : tzeroD Tryz.prog 101 = some (.agg ([.bool false, .bool false, .bool false, .bool false, .bool false, .bool false])) := by kernel_rfl
@[simp] theorem fplace_101 : fplace Tryz.prog 101 = none := by kernel_rfl
@[simp] theorem tk_103 : tk Tryz.prog 103 = .func := by kernel_rfl
@[simp] theorem tsz_103 : tsz Tryz.prog 103 = some 1 := by kernel_rfl
@[simp] theorem tk_104 : tk Tryz.prog 104 = .func := by kernel_rfl
@[simp] theorem tsz_104 : tsz Tryz.prog 104 = some 1 := by kernel_rfl
@[simp] theorem tk_105 : tk Tryz.prog 105 = .func := by kernel_rfl
@[simp] theorem tsz_105 : tsz Tryz.prog 105 = some 1 := by kernel_rfl
@[simp] theorem tk_106 : tk Tryz.prog 106 = .func := by kernel_rfl
@[simp] theorem tsz_106 : tsz Tryz.prog 106 = some 1 := by kernel_rfl
@[simp] theorem tk_107 : tk Tryz.prog 107 = .slice 94 := by kernel_rfl
@[simp] theorem tsz_107 : tsz Tryz.prog 107 = some 1 := by kernel_rfl
@[simp] theorem tzero_107 : tzero Tryz.prog 107 = some ([.lit (.slice none 0 0)]) := by kernel_rfl
@[simp] theorem tbytes_107 : tbytes Tryz.prog 107 = some 24 := by kernel_rfl
@[simp] theorem tzeroD_107 : tzeroD Tryz.prog 107 = some (.list []) := by kernel_rfl
@[simp] theorem srcTy_107 : srcTy Tryz.prog 107 = true := by kernel_rfl
@[simp] theorem tk_108 : tk Tryz.prog 108 = .func := by kernel_rfl
@[simp] theorem tsz_108 : tsz Tryz.prog 108 = some 1 := by kernel_rfl
@[simp] theorem tk_109 : tk Tryz.prog 109 = .func := by kernel_rfl
@[simp] theorem tsz_109 : tsz Tryz.prog 109 = some 1 := by kernel_rfl
@[simp] theorem tk_110 : tk Tryz.prog 110 = .func := by kernel_rfl
@[simp] theorem tsz_110 : tsz Tryz.prog 110 = some 1 := by kernel_rfl
@[simp] theorem tk_111 : tk Tryz.prog 111 = .func := by kernel_rfl
@[simp] theorem tsz_111 : tsz Tryz.prog 111 = some 1 := by kernel_rfl
@[simp] theorem tk_113 : tk Tryz.prog 113 = .func := by kernel_rfl
@[simp] theorem tsz_113 : tsz Tryz.prog 113 = some 1 := by kernel_rfl
@[simp] theorem tk_114 : tk Tryz.prog 114 = .func := by kernel_rfl
@[simp] theorem tsz_114 : tsz Tryz.prog 114 = some 1 := by kernel_rfl
@[simp] theorem tk_115 : tk Tryz.prog 115 = .int .u64 := by kernel_rfl
@[simp] theorem tsz_115 : tsz Tryz.prog 115 = some 1 := by kernel_rfl
@[simp] theorem tzero_115 : tzero Tryz.prog 115 = some ([.d (.int .u64 0)]) := by kernel_rfl
@[simp] theorem tbytes_115 : tbytes Tryz.prog 115 = some 8 := by kernel_rfl
@[simp] theorem tzeroD_115 : tzeroD Tryz.prog 115 = some (.int .u64 0) := by kernel_rfl
@[simp] theorem tk_116 : tk Tryz.prog 116 = .arr 4 115 := by kernel_rfl
@[simp] theorem tsz_116 : tsz Tryz.prog 116 = some 4 := by kernel_rfl
@[simp] theorem tzero_116 : tzero Tryz.prog 116 = some ([.d (.int .u64 0), .d (.int .u64 0), .d (.int .u64 0), .d (.int .u64 0)]) := by kernel_rfl
@[simp] theorem tbytes_116 : tbytes Tryz.prog 116 = some 32 := by kernel_rfl
@[simp] theorem tzeroD_116 : tzeroD Tryz.prog 116 = some (.agg ([.int .u64 0, .int .u64 0, .int .u64 0, .int .u64 0])) := by kernel_rfl
@[simp] theorem fplace_116 : fplace Tryz.prog 116 = none := by kernel_rfl
@[simp] theorem tk_117 : tk Tryz.prog 117 = .struct := by kernel_rfl
@[simp] theorem tsz_117 : tsz Tryz.prog 117 = some 5 := by kernel_rfl
@[simp] theorem tzero_117 : tzero Tryz.prog 117 = some ([.d (.int .u64 0), .d (.int .u64 0), .d (.int .u64 0), .d (.int .u64 0), .d (.bool false)]) := by kernel_rfl
@[simp] theorem tbytes_117 : tbytes Tryz.prog 117 = some 40 := by kernel_rfl
@[simp] theorem tzeroD_117 : tzeroD Tryz.prog 117 = some (.agg ([.int .u64 0, .int .u64 0, .int .u64 0, .int .u64 0, .bool false])) := by kernel_rfl
@[simp] theorem foff_117_0 : foff Tryz.prog 117 0 = some 0 := by kernel_rfl
@[simp] theorem foff_117_1 : foff Tryz.prog 117 1 = some 4 := by kernel_rfl
@[simp] theorem fplace_117 : fplace Tryz.prog 117 = some [(0, 4), (4, 1)] := by kernel_rfl
@[simp] theorem tk_118 : tk Tryz.prog 118 = .struct := by kernel_rfl
@[simp] theorem tsz_118 : tsz Tryz.prog 118 = some 5 := by kernel_rfl
@[simp] theorem tzero_118 : tzero Tryz.prog 118 = some ([.d (.int .u64 0), .d (.int .u64 0), .d (.int .u64 0), .d (.int .u64 0), .d (.bool false)]) := by kernel_rfl
@[simp] theorem tbytes_118 : tbytes Tryz.prog 118 = some 40 := by kernel_rfl
@[simp] theorem tzeroD_118 : tzeroD Tryz.prog 118 = some (.agg ([.int .u64 0, .int .u64 0, .int .u64 0, .int .u64 0, .bool false])) := by kernel_rfl
@[simp] theorem foff_118_0 : foff Tryz.prog 118 0 = some 0 := by kernel_rfl
@[simp] theorem foff_118_1 : foff Tryz.prog 118 1 = some 4 := by kernel_rfl
@[simp] theorem fplace_118 : fplace Tryz.prog 118 = some [(0, 4), (4, 1)] := by kernel_rfl
@[simp] theorem tk_119 : tk Tryz.prog 119 = .func := by kernel_rfl
@[simp] theorem tsz_119 : tsz Tryz.prog 119 = some 1 := by kernel_rfl
@[simp] theorem tk_120 : tk Tryz.prog 120 = .func := by kernel_rfl
@[simp] theorem tsz_120 : tsz Tryz.prog 120 = some 1 := by kernel_rfl
@[simp] theorem tk_121 : tk Tryz.prog 121 = .func := by kernel_rfl
@[simp] theorem tsz_121 : tsz Tryz.prog 121 = some 1 := by kernel_rfl
@[simp] theorem tk_123 : tk Tryz.prog 123 = .func := by kernel_rfl
@[simp] theorem tsz_123 : tsz Tryz.prog 123 = some 1 := by kernel_rfl
@[simp] theorem tk_125 : tk Tryz.prog 125 = .func := by kernel_rfl
@[simp] theorem tsz_125 : tsz Tryz.prog 125 = some 1 := by kernel_rfl
@[simp] theorem tk_126 : tk Tryz.prog 126 = .arr 256 5 := by kernel_rfl
@[simp] theorem tsz_126 : tsz Tryz.prog 126 = some 256 := by kernel_rfl
@[simp] theorem tzero_126 : tzero Tryz.prog 126 = some (List.replicate 256 (.d (.int .u8 0))) := by kernel_rfl
@[simp] theorem tbytes_126 : tbytes Tryz.prog 126 = some 256 := by kernel_rfl
@[simp] theorem tzeroD_126 : tzeroD Tryz.prog 126 = some (.agg (List.replicate 256 (.int .u8 0))) := by kernel_rfl
@[simp] theorem fplace_126 : fplace Tryz.prog 126 = none := by kernel_rfl
@[simp] theorem tk_127 : tk Tryz.prog 127 = .func := by kernel_rfl
@[simp] theorem tsz_127 : tsz Tryz.prog 127 = some 1 := by kernel_rfl
@[simp] theorem tk_128 : tk Tryz.prog 128 = .func := by kernel_rfl
@[simp] theorem tsz_128 : tsz Tryz.prog 128 = some 1 := by kernel_rfl
@[simp] theorem tk_129 : tk Tryz.prog 129 = .func := by kernel_rfl
@[simp] theorem tsz_129 : tsz Tryz.prog 129 = some 1 := by kernel_rfl
@[simp] theorem tk_130 : tk Tryz.prog 130 = .int .u64 := by kernel_rfl
@[simp] theorem tsz_130 : tsz Tryz.prog 130 = some 1 := by kernel_rfl
@[simp] theorem tzero_130 : tzero Tryz.prog 130 = some ([.d (.int .u64 0)]) := by kernel_rfl
@[simp] theorem tbytes_130 : tbytes Tryz.prog 130 = some 8 := by kernel_rfl
@[simp] theorem tzeroD_130 : tzeroD Tryz.prog 130 = some (.int .u64 0) := by kernel_rfl
@[simp] theorem tk_132 : tk Tryz.prog 132 = .func := by kernel_rfl
@[simp] theorem tsz_132 : tsz Tryz.prog 132 = some 1 := by kernel_rfl
@[simp] theorem tk_133 : tk Tryz.prog 133 = .func := by kernel_rfl
@[simp] theorem tsz_133 : tsz Tryz.prog 133 = some 1 := by kernel_rfl
@[simp] theorem tk_134 : tk Tryz.prog 134 = .func := by kernel_rfl
@[simp] theorem tsz_134 : tsz Tryz.prog 134 = some 1 := by kernel_rfl
@[simp] theorem tk_135 : tk Tryz.prog 135 = .slice 137 := by kernel_rfl
@[simp] theorem tsz_135 : tsz Tryz.prog 135 = some 1 := by kernel_rfl
@[simp] theorem tzero_135 : tzero Tryz.prog 135 = some ([.lit (.slice none 0 0)]) := by kernel_rfl
@[simp] theorem tbytes_135 : tbytes Tryz.prog 135 = some 24 := by kernel_rfl
@[simp] theorem tzeroD_135 : tzeroD Tryz.prog 135 = some (.list []) := by kernel_rfl
@[simp] theorem srcTy_135 : srcTy Tryz.prog 135 = true := by kernel_rfl
@[simp] theorem tk_136 : tk Tryz.prog 136 = .struct := by kernel_rfl
@[simp] theorem tsz_136 : tsz Tryz.prog 136 = some 2 := by kernel_rfl
@[simp] theorem tzero_136 : tzero Tryz.prog 136 = some ([.d (.int .i64 0), .d (.int .i64 0)]) := by kernel_rfl
@[simp] theorem tbytes_136 : tbytes Tryz.prog 136 = some 16 := by kernel_rfl
@[simp] theorem tzeroD_136 : tzeroD Tryz.prog 136 = some (.agg ([.int .i64 0, .int .i64 0])) := by kernel_rfl
@[simp] theorem foff_136_0 : foff Tryz.prog 136 0 = some 0 := by kernel_rfl
@[simp] theorem foff_136_1 : foff Tryz.prog 136 1 = some 1 := by kernel_rfl
@[simp] theorem fplace_136 : fplace Tryz.prog 136 = some [(0, 1), (1, 1)] := by kernel_rfl
@[simp] theorem flat_136 : flatStruct Tryz.prog 136 = some [.int .i64, .int .i64] := by kernel_rfl
@[simp] theorem tk_137 : tk Tryz.prog 137 = .struct := by kernel_rfl
@[simp] theorem tsz_137 : tsz Tryz.prog 137 = some 2 := by kernel_rfl
@[simp] theorem tzero_137 : tzero Tryz.prog 137 = some ([.d (.int .i64 0), .d (.int .i64 0)]) := by kernel_rfl
@[simp] theorem tbytes_137 : tbytes Tryz.prog 137 = some 16 := by kernel_rfl
@[simp] theorem tzeroD_137 : tzeroD Tryz.prog 137 = some (.agg ([.int .i64 0, .int .i64 0])) := by kernel_rfl
@[simp] theorem foff_137_0 : foff Tryz.prog 137 0 = some 0 := by kernel_rfl
@[simp] theorem foff_137_1 : foff Tryz.prog 137 1 = some 1 := by kernel_rfl
@[simp] theorem fplace_137 : fplace Tryz.prog 137 = some [(0, 1), (1, 1)] := by kernel_rfl
@[simp] theorem flat_137 : flatStruct Tryz.prog 137 = some [.int .i64, .int .i64] := by kernel_rfl
@[simp] theorem tk_138 : tk Tryz.prog 138 = .int .u32 := by kernel_rfl
@[simp] theorem tsz_138 : tsz Tryz.prog 138 = some 1 := by kernel_rfl
@[simp] theorem tzero_138 : tzero Tryz.prog 138 = some ([.d (.int .u32 0)]) := by kernel_rfl
@[simp] theorem tbytes_138 : tbytes Tryz.prog 138 = some 4 := by kernel_rfl
@[simp] theorem tzeroD_138 : tzeroD Tryz.prog 138 = some (.int .u32 0) := by kernel_rfl
@[simp] theorem tk_139 : tk Tryz.prog 139 = .func := by kernel_rfl
@[simp] theorem tsz_139 : tsz Tryz.prog 139 = some 1 := by kernel_rfl
@[simp] theorem tk_140 : tk Tryz.prog 140 = .ptr 145 := by kernel_rfl
@[simp] theorem tsz_140 : tsz Tryz.prog 140 = some 1 := by kernel_rfl
@[simp] theorem tk_141 : tk Tryz.prog 141 = .func := by kernel_rfl
@[simp] theorem tsz_141 : tsz Tryz.prog 141 = some 1 := by kernel_rfl
@[simp] theorem tk_142 : tk Tryz.prog 142 = .slice 148 := by kernel_rfl
@[simp] theorem tsz_142 : tsz Tryz.prog 142 = some 1 := by kernel_rfl
@[simp] theorem tzero_142 : tzero Tryz.prog 142 = some ([.lit (.slice none 0 0)]) := by kernel_rfl
@[simp] theorem tbytes_142 : tbytes Tryz.prog 142 = some 24 := by kernel_rfl
@[simp] theorem tzeroD_142 : tzeroD Tryz.prog 142 = some (.list []) := by kernel_rfl
@[simp] theorem srcTy_142 : srcTy Tryz.prog 142 = true := by kernel_rfl
@[simp] theorem tk_143 : tk Tryz.prog 143 = .slice 151 := by kernel_rfl
@[simp] theorem tsz_143 : tsz Tryz.prog 143 = some 1 := by kernel_rfl
@[simp] theorem tzero_143 : tzero Tryz.prog 143 = some ([.lit (.slice none 0 0)]) := by kernel_rfl
@[simp] theorem tbytes_143 : tbytes Tryz.prog 143 = some 24 := by kernel_rfl
@[simp] theorem tzeroD_143 : tzeroD Tryz.prog 143 = some (.list []) := by kernel_rfl
@[simp] theorem srcTy_143 : srcTy Tryz.prog 143 = true := by kernel_rfl
@[simp] theorem tk_144 : tk Tryz.prog 144 = .struct := by kernel_rfl
@[simp] theorem tsz_144 : tsz Tryz.prog 144 = some 3 := by kernel_rfl
@[simp] theorem tzero_144 : tzero Tryz.prog 144 = some ([.lit (.slice none 0 0), .lit (.slice none 0 0), .d (.int .i64 0)]) := by kernel_rfl
@[simp] theorem tbytes_144 : tbytes Tryz.prog 144 = some 56 := by kernel_rfl
@[simp] theorem tzeroD_144 : tzeroD Tryz.prog 144 = some (.agg ([.list [], .list [], .int .i64 0])) := by kernel_rfl
@[simp] theorem foff_144_0 : foff Tryz.prog 144 0 = some 0 := by kernel_rfl
@[simp] theorem foff_144_1 : foff Tryz.prog 144 1 = some 1 := by kernel_rfl
@[simp] theorem foff_144_2 : foff Tryz.prog 144 2 = some 2 := by kernel_rfl
@[simp] theorem fplace_144 : fplace Tryz.prog 144 = some [(0, 1), (1, 1), (2, 1)] := by kernel_rfl
@[simp] theorem tk_145 : tk Tryz.prog 145 = .struct := by kernel_rfl
@[simp] theorem tsz_145 : tsz Tryz.prog 145 = some 3 := by kernel_rfl
@[simp] theorem tzero_145 : tzero Tryz.prog 145 = some ([.lit (.slice none 0 0), .lit (.slice none 0 0), .d (.int .i64 0)]) := by kernel_rfl
@[simp] theorem tbytes_145 : tbytes Tryz.prog 145 = some 56 := by kernel_rfl
@[simp] theorem tzeroD_145 : tzeroD Tryz.prog 145 = some (.agg ([.list [], .list [], .int .i64 0])) := by kernel_rfl
@[simp] theorem foff_145_0 : foff Tryz.prog 145 0 = some 0 := by kernel_rfl
@[simp] theorem foff_145_1 : foff Tryz.prog 145 1 = some 1 := by kernel_rfl
@[simp] theorem foff_145_2 : foff Tryz.prog 145 2 = some 2 := by kernel_rfl
@[simp] theorem fplace_145 : fplace Tryz.prog 145 = some [(0, 1), (1, 1), (2, 1)] := by kernel_rfl
@[simp] theorem tk_146 : tk Tryz.prog 146 = .int .u16 := by kernel_rfl
@[simp] theorem tsz_146 : tsz Tryz.prog 146 = some 1 := by kernel_rfl
@[simp] theorem tzero_146 : tzero Tryz.prog 146 = some ([.d (.int .u16 0)]) := by kernel_rfl
@[simp] theorem tbytes_146 : tbytes Tryz.prog 146 = some 2 := by kernel_rfl
@[simp] theorem tzeroD_146 : tzeroD Tryz.prog 146 = some (.int .u16 0) := by kernel_rfl
@[simp] theorem tk_147 : tk Tryz.prog 147 = .struct := by kernel_rfl
@[simp] theorem tsz_147 : tsz Tryz.prog 147 = some 3 := by kernel_rfl
@[simp] theorem tzero_147 : tzero Tryz.prog 147 = some ([.d (.int .u16 0), .d (.int .u16 0), .d (.int .u16 0)]) := by kernel_rfl
@[simp] theorem tbytes_147 : tbytes Tryz.prog 147 = some 6 := by kernel_rfl
@[simp] theorem tzeroD_147 : tzeroD Tryz.prog 147 = some (.agg ([.int .u16 0, .int .u16 0, .int .u16 0])) := by kernel_rfl
@[simp] theorem foff_147_0 : foff Tryz.prog 147 0 = some 0 := by kernel_rfl
@[simp] theorem foff_147_1 : foff Tryz.prog 147 1 = some 1 := by kernel_rfl
@[simp] theorem foff_147_2 : foff Tryz.prog 147 2 = some 2 := by kernel_rfl
@[simp] theorem fplace_147 : fplace Tryz.prog 147 = some [(0, 1), (1, 1), (2, 1)] := by kernel_rfl
@[simp] theorem flat_147 : flatStruct Tryz.prog 147 = some [.int .u16, .int .u16, .int .u16] := by kernel_rfl
@[simp] theorem tk_148 : tk Tryz.prog 148 = .struct := by kernel_rfl
@[simp] theorem tsz_148 : tsz Tryz.prog 148 = some 3 := by kernel_rfl
@[simp] theorem tzero_148 : tzero Tryz.prog 148 = some ([.d (.int .u16 0), .d (.int .u16 0), .d (.int .u16 0)]) := by kernel_rfl
@[simp] theorem tbytes_148 : tbytes Tryz.prog 148 = some 6 := by kernel_rfl
@[simp] theorem tzeroD_148 : tzeroD Tryz.prog 148 = some (.agg ([.int .u16 0, .int .u16 0, .int .u16 0])) := by kernel_rfl
@[simp] theorem foff_148_0 : foff Tryz.prog 148 0 = some 0 := by kernel_rfl
@[simp] theorem foff_148_1 : foff Tryz.prog 148 1 = some 1 := by kernel_rfl
@[simp] theorem foff_148_2 : foff Tryz.prog 148 2 = some 2 := by kernel_rfl
@[simp] theorem fplace_148 : fplace Tryz.prog 148 = some [(0, 1), (1, 1), (2, 1)] := by kernel_rfl
@[simp] theorem flat_148 : flatStruct Tryz.prog 148 = some [.int .u16, .int .u16, .int .u16] := by kernel_rfl
@[simp] theorem tk_149 : tk Tryz.prog 149 = .func := by kernel_rfl
@[simp] theorem tsz_149 : tsz Tryz.prog 149 = some 1 := by kernel_rfl
@[simp] theorem tk_150 : tk Tryz.prog 150 = .struct := by kernel_rfl
@[simp] theorem tsz_150 : tsz Tryz.prog 150 = some 3 := by kernel_rfl
@[simp] theorem tzero_150 : tzero Tryz.prog 150 = some ([.d (.int .u32 0), .d (.int .u32 0), .d (.int .u32 0)]) := by kernel_rfl
@[simp] theorem tbytes_150 : tbytes Tryz.prog 150 = some 12 := by kernel_rfl
@[simp] theorem tzeroD_150 : tzeroD Tryz.prog 150 = some (.agg ([.int .u32 0, .int .u32 0, .int .u32 0])) := by kernel_rfl
@[simp] theorem foff_150_0 : foff Tryz.prog 150 0 = some 0 := by kernel_rfl
@[simp] theorem foff_150_1 : foff Tryz.prog 150 1 = some 1 := by kernel_rfl
@[simp] theorem foff_150_2 : foff Tryz.prog 150 2 = some 2 := by kernel_rfl
@[simp] theorem fplace_150 : fplace Tryz.prog 150 = some [(0, 1), (1, 1), (2, 1)] := by kernel_rfl
@[simp] theorem flat_150 : flatStruct Tryz.prog 150 = some [.int .u32, .int .u32, .int .u32] := by kernel_rfl
@[simp] theorem tk_151 : tk Tryz.prog 151 = .struct := by kernel_rfl
@[simp] theorem tsz_151 : tsz Tryz.prog 151 = some 3 := by kernel_rfl
@[simp] theorem tzero_151 : tzero Tryz.prog 151 = some ([.d (.int .u32 0), .d (.int .u32 0), .d (.int .u32 0)]) := by kernel_rfl
@[simp] theorem tbytes_151 : tbytes Tryz.prog 151 = some 12 := by kernel_rfl
@[simp] theorem tzeroD_151 : tzeroD Tryz.prog 151 = some (.agg ([.int .u32 0, .int .u32 0, .int .u32 0])) := by kernel_rfl
@[simp] theorem foff_151_0 : foff Tryz.prog 151 0 = some 0 := by kernel_rfl
@[simp] theorem foff_151_1 : foff Tryz.prog 151 1 = some 1 := by kernel_rfl
@[simp] theorem foff_151_2 : foff Tryz.prog 151 2 = some 2 := by kernel_rfl
@[simp] theorem fplace_151 : fplace Tryz.prog 151 = some [(0, 1), (1, 1), (2, 1)] := by kernel_rfl
@[simp] theorem flat_151 : flatStruct Tryz.prog 151 = some [.int .u32, .int .u32, .int .u32] := by kernel_rfl
@[simp] theorem tk_152 : tk Tryz.prog 152 = .func := by kernel_rfl
@[simp] theorem tsz_152 : tsz Tryz.prog 152 = some 1 := by kernel_rfl
@[simp] theorem tk_153 : tk Tryz.prog 153 = .ptr 148 := by kernel_rfl
@[simp] theorem tsz_153 : tsz Tryz.prog 153 = some 1 := by kernel_rfl
@[simp] theorem tk_154 : tk Tryz.prog 154 = .ptr 151 := by kernel_rfl
@[simp] theorem tsz_154 : tsz Tryz.prog 154 = some 1 := by kernel_rfl
@[simp] theorem tk_155 : tk Tryz.prog 155 = .func := by kernel_rfl
@[simp] theorem tsz_155 : tsz Tryz.prog 155 = some 1 := by kernel_rfl
@[simp] theorem tk_156 : tk Tryz.prog 156 = .struct := by kernel_rfl
@[simp] theorem tsz_156 : tsz Tryz.prog 156 = some 4 := by kernel_rfl
@[simp] theorem tzero_156 : tzero Tryz.prog 156 = some ([.lit (.pointer none), .lit (.pointer none), .lit (.pointer none), .d (.str [])]) := by kernel_rfl
@[simp] theorem foff_156_0 : foff Tryz.prog 156 0 = some 0 := by kernel_rfl
@[simp] theorem foff_156_1 : foff Tryz.prog 156 1 = some 1 := by kernel_rfl
@[simp] theorem foff_156_2 : foff Tryz.prog 156 2 = some 2 := by kernel_rfl
@[simp] theorem foff_156_3 : foff Tryz.prog 156 3 = some 3 := by kernel_rfl
@[simp] theorem fplace_156 : fplace Tryz.prog 156 = some [(0, 1), (1, 1), (2, 1), (3, 1)] := by kernel_rfl
@[simp] theorem tk_157 : tk Tryz.prog 157 = .struct := by kernel_rfl
@[simp] theorem tsz_157 : tsz Tryz.prog 157 = some 4 := by kernel_rfl
@[simp] theorem tzero_157 : tzero Tryz.prog 157 = some ([.lit (.pointer none), .lit (.pointer none), .lit (.pointer none), .d (.str [])]) := by kernel_rfl
@[simp] theorem foff_157_0 : foff Tryz.prog 157 0 = some 0 := by kernel_rfl
@[simp] theorem foff_157_1 : foff Tryz.prog 157 1 = some 1 := by kernel_rfl
@[simp] theorem foff_157_2 : foff Tryz.prog 157 2 = some 2 := by kernel_rfl
@[simp] theorem foff_157_3 : foff Tryz.prog 157 3 = some 3 := by kernel_rfl
@[simp] theorem fplace_157 : fplace Tryz.prog 157 = some [(0, 1), (1, 1), (2, 1), (3, 1)] := by kernel_rfl
@[simp] theorem tk_158 : tk Tryz.prog 158 = .arr 0 16 := by kernel_rfl
@[simp] theorem tsz_158 : tsz Tryz.prog 158 = some 0 := by kernel_rfl
@[simp] theorem tzero_158 : tzero Tryz.prog 158 = some ([]) := by kernel_rfl
@[simp] theorem tbytes_158 : tbytes Tryz.prog 158 = some 0 := by kernel_rfl
@[simp] theorem tzeroD_158 : tzeroD Tryz.prog 158 = some (.agg ([])) := by kernel_rfl
@[simp] theorem fplace_158 : fplace Tryz.prog 158 = none := by kernel_rfl
@[simp] theorem tk_159 : tk Tryz.prog 159 = .struct := by kernel_rfl
@[simp] theorem tsz_159 : tsz Tryz.prog 159 = some 0 := by kernel_rfl
@[simp] theorem tzero_159 : tzero Tryz.prog 159 = some ([]) := by kernel_rfl
@[simp] theorem tbytes_159 : tbytes Tryz.prog 159 = some 0 := by kernel_rfl
@[simp] theorem tzeroD_159 : tzeroD Tryz.prog 159 = some (.agg ([])) := by kernel_rfl
@[simp] theorem fplace_159 : fplace Tryz.prog 159 = some [(0, 0)] := by kernel_rfl
@[simp] theorem tk_160 : tk Tryz.prog 160 = .struct := by kernel_rfl
@[simp] theorem tsz_160 : tsz Tryz.prog 160 = some 0 := by kernel_rfl
@[simp] theorem tzero_160 : tzero Tryz.prog 160 = some ([]) := by kernel_rfl
@[simp] theorem tbytes_160 : tbytes Tryz.prog 160 = some 0 := by kernel_rfl
@[simp] theorem tzeroD_160 : tzeroD Tryz.prog 160 = some (.agg ([])) := by kernel_rfl
@[simp] theorem fplace_160 : fplace Tryz.prog 160 = some [(0, 0)] := by kernel_rfl
@[simp] theorem tk_161 : tk Tryz.prog 161 = .func := by kernel_rfl
@[simp] theorem tsz_161 : tsz Tryz.prog 161 = some 1 := by kernel_rfl
@[simp] theorem tk_162 : tk Tryz.prog 162 = .int .u8 := by kernel_rfl
@[simp] theorem tsz_162 : tsz Tryz.prog 162 = some 1 := by kernel_rfl
@[simp] theorem tzero_162 : tzero Tryz.prog 162 = some ([.d (.int .u8 0)]) := by kernel_rfl
@[simp] theorem tbytes_162 : tbytes Tryz.prog 162 = some 1 := by kernel_rfl
@[simp] theorem tzeroD_162 : tzeroD Tryz.prog 162 = some (.int .u8 0) := by kernel_rfl
@[simp] theorem tk_163 : tk Tryz.prog 163 = .int .u8 := by kernel_rfl
@[simp] theorem tsz_163 : tsz Tryz.prog 163 = some 1 := by kernel_rfl
@[simp] theorem tzero_163 : tzero Tryz.prog 163 = some ([.d (.int .u8 0)]) := by kernel_rfl
@[simp] theorem tbytes_163 : tbytes Tryz.prog 163 = some 1 := by kernel_rfl
@[simp] theorem tzeroD_163 : tzeroD Tryz.prog 163 = some (.int .u8 0) := by kernel_rfl
@[simp] theorem tk_164 : tk Tryz.prog 164 = .func := by kernel_rfl
@[simp] theorem tsz_164 : tsz Tryz.prog 164 = some 1 := by kernel_rfl
@[simp] theorem tk_165 : tk Tryz.prog 165 = .ptr 5 := by kernel_rfl
@[simp] theorem tsz_165 : tsz Tryz.prog 165 = some 1 := by kernel_rfl
@[simp] theorem tk_166 : tk Tryz.prog 166 = .int .i32 := by kernel_rfl
@[simp] theorem tsz_166 : tsz Tryz.prog 166 = some 1 := by kernel_rfl
@[simp] theorem tzero_166 : tzero Tryz.prog 166 = some ([.d (.int .i32 0)]) := by kernel_rfl
@[simp] theorem tbytes_166 : tbytes Tryz.prog 166 = some 4 := by kernel_rfl
@[simp] theorem tzeroD_166 : tzeroD Tryz.prog 166 = some (.int .i32 0) := by kernel_rfl
@[simp] theorem tk_167 : tk Tryz.prog 167 = .int .i32 := by kernel_rfl
@[simp] theorem tsz_167 : tsz Tryz.prog 167 = some 1 := by kernel_rfl
@[simp] theorem tzero_167 : tzero Tryz.prog 167 = some ([.d (.int .i32 0)]) := by kernel_rfl
@[simp] theorem tbytes_167 : tbytes Tryz.prog 167 = some 4 := by kernel_rfl
@[simp] theorem tzeroD_167 : tzeroD Tryz.prog 167 = some (.int .i32 0) := by kernel_rfl
@[simp] theorem tk_168 : tk Tryz.prog 168 = .struct := by kernel_rfl
@[simp] theorem tsz_168 : tsz Tryz.prog 168 = some 11 := by kernel_rfl
@[simp] theorem tzero_168 : tzero Tryz.prog 168 = some ([.d (.int .u64 0), .d (.int .u64 0), .d (.int .u32 0), .d (.int .u8 0), .d (.int .u8 0), .d (.int .u8 0), .d (.int .u8 0), .lit .nilFunc, .lit (.pointer none), .d (.int .i32 0), .d (.int .i32 0)]) := by kernel_rfl
@[simp] theorem foff_168_0 : foff Tryz.prog 168 0 = some 0 := by kernel_rfl
@[simp] theorem foff_168_1 : foff Tryz.prog 168 1 = some 1 := by kernel_rfl
@[simp] theorem foff_168_2 : foff Tryz.prog 168 2 = some 2 := by kernel_rfl
@[simp] theorem foff_168_3 : foff Tryz.prog 168 3 = some 3 := by kernel_rfl
@[simp] theorem foff_168_4 : foff Tryz.prog 168 4 = some 4 := by kernel_rfl
@[simp] theorem foff_168_5 : foff Tryz.prog 168 5 = some 5 := by kernel_rfl
@[simp] theorem foff_168_6 : foff Tryz.prog 168 6 = some 6 := by kernel_rfl
@[simp] theorem foff_168_7 : foff Tryz.prog 168 7 = some 7 := by kernel_rfl
@[simp] theorem foff_168_8 : foff Tryz.prog 168 8 = some 8 := by kernel_rfl
@[simp] theorem foff_168_9 : foff Tryz.prog 168 9 = some 9 := by kernel_rfl
@[simp] theorem foff_168_10 : foff Tryz.prog 168 10 = some 10 := by kernel_rfl
@[simp] theorem fplace_168 : fplace Tryz.prog 168 = some [(0, 1), (1, 1), (2, 1), (3, 1), (4, 1), (5, 1), (6, 1), (7, 1), (8, 1), (9, 1), (10, 1)] := by kernel_rfl
@[simp] theorem tk_169 : tk Tryz.prog 169 = .struct := by kernel_rfl
@[simp] theorem tsz_169 : tsz Tryz.prog 169 = some 11 := by kernel_rfl
@[simp] theorem tzero_169 : tzero Tryz.prog 169 = some ([.d (.int .u64 0), .d (.int .u64 0), .d (.int .u32 0), .d (.int .u8 0), .d (.int .u8 0), .d (.int .u8 0), .d (.int .u8 0), .lit .nilFunc, .lit (.pointer none), .d (.int .i32 0), .d (.int .i32 0)]) := by kernel_rfl
@[simp] theorem foff_169_0 : foff Tryz.prog 169 0 = some 0 := by kernel_rfl
@[simp] theorem foff_169_1 : foff Tryz.prog 169 1 = some 1 := by kernel_rfl
@[simp] theorem foff_169_2 : foff Tryz.prog 169 2 = some 2 := by kernel_rfl
@[simp] theorem foff_169_3 : foff Tryz.prog 169 3 = some 3 := by kernel_rfl
@[simp] theorem foff_169_4 : foff Tryz.prog 169 4 = some 4 := by kernel_rfl
@[simp] theorem foff_169_5 : foff Tryz.prog 169 5 = some 5 := by kernel_rfl
@[simp] theorem foff_169_6 : foff Tryz.prog 169 6 = some 6 := by kernel_rfl
@[simp] theorem foff_169_7 : foff Tryz.prog 169 7 = some 7 := by kernel_rfl
@[simp] theorem foff_169_8 : foff Tryz.prog 169 8 = some 8 := by kernel_rfl
@[simp] theorem foff_169_9 : foff Tryz.prog 169 9 = some 9 := by kernel_rfl
@[simp] theorem foff_169_10 : foff Tryz.prog 169 10 = some 10 := by kernel_rfl
@[simp] theorem fplace_169 : fplace Tryz.prog 169 = some [(0, 1), (1, 1), (2, 1), (3, 1), (4, 1), (5, 1), (6, 1), (7, 1), (8, 1), (9, 1), (10, 1)] := by kernel_rfl
end Go.Am
end
section
namespace Go.Am
open Go
def idxO : List D → Option D
  | [.str s, .str t] => if s.length < 4294967281 then some (.int .i64 (Go.Lib.index s t)) else none
  | _ => none
def ibO : List D → Option D
  | [.str s, .int .u8 c] => some (.int .i64 (Go.Lib.indexByte s c.toNat.toUInt8))
  | _ => none
def hpO : List D → Option D
  | [.str s, .str p] => some (.bool (Go.Lib.hasPrefix s p))
  | _ => none
attribute [simp] idxO.eq_1 ibO.eq_1 hpO.eq_1
end Go.Am
end
