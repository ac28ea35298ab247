/-
  Texts of one proof, one behind the other.
-/
import Derived.Test.YtecknaklaleloaaDoorP4
import Derived.Test.YtecknaklaleloaaDoorProg
import Derived.KernelRfl
import Derived.Lib.Bytealg
import Derived.Lib.Index
import Derived.Lib.Strings
import Derived.Lib.Split
import Derived.Lib.FieldsP
import Derived.Lib.ParseIntB
import Derived.Lib.ItoaNum
set_option linter.all false
section
namespace Go.Am
open Go
open Go.Proofs
@[simp] theorem tk_1 : tk Tryd.prog 1 = .func := by kernel_rfl
@[simp] theorem tsz_1 : tsz Tryd.prog 1 = some 1 := by kernel_rfl
@[simp] theorem tk_2 : tk Tryd.prog 2 = .int .i64 := by kernel_rfl
@[simp] theorem tsz_2 : tsz Tryd.prog 2 = some 1 := by kernel_rfl
@[simp] theorem tzero_2 : tzero Tryd.prog 2 = some ([.d (.int .i64 0)]) := by kernel_rfl
@[simp] theorem tbytes_2 : tbytes Tryd.prog 2 = some 8 := by kernel_rfl
@[simp] theorem tzeroD_2 : tzeroD Tryd.prog 2 = some (.int .i64 0) := by kernel_rfl
@[simp] theorem tk_3 : tk Tryd.prog 3 = .int .i64 := by kernel_rfl
@[simp] theorem tsz_3 : tsz Tryd.prog 3 = some 1 := by kernel_rfl
@[simp] theorem tzero_3 : tzero Tryd.prog 3 = some ([.d (.int .i64 0)]) := by kernel_rfl
@[simp] theorem tbytes_3 : tbytes Tryd.prog 3 = some 8 := by kernel_rfl
@[simp] theorem tzeroD_3 : tzeroD Tryd.prog 3 = some (.int .i64 0) := by kernel_rfl
@[simp] theorem tk_4 : tk Tryd.prog 4 = .bool := by kernel_rfl
@[simp] theorem tsz_4 : tsz Tryd.prog 4 = some 1 := by kernel_rfl
@[simp] theorem tzero_4 : tzero Tryd.prog 4 = some ([.d (.bool false)]) := by kernel_rfl
@[simp] theorem tbytes_4 : tbytes Tryd.prog 4 = some 1 := by kernel_rfl
@[simp] theorem tzeroD_4 : tzeroD Tryd.prog 4 = some (.bool false) := by kernel_rfl
@[simp] theorem tk_5 : tk Tryd.prog 5 = .int .u8 := by kernel_rfl
@[simp] theorem tsz_5 : tsz Tryd.prog 5 = some 1 := by kernel_rfl
@[simp] theorem tzero_5 : tzero Tryd.prog 5 = some ([.d (.int .u8 0)]) := by kernel_rfl
@[simp] theorem tbytes_5 : tbytes Tryd.prog 5 = some 1 := by kernel_rfl
@[simp] theorem tzeroD_5 : tzeroD Tryd.prog 5 = some (.int .u8 0) := by kernel_rfl
@[simp] theorem tk_6 : tk Tryd.prog 6 = .int .u8 := by kernel_rfl
@[simp] theorem tsz_6 : tsz Tryd.prog 6 = some 1 := by kernel_rfl
@[simp] theorem tzero_6 : tzero Tryd.prog 6 = some ([.d (.int .u8 0)]) := by kernel_rfl
@[simp] theorem tbytes_6 : tbytes Tryd.prog 6 = some 1 := by kernel_rfl
@[simp] theorem tzeroD_6 : tzeroD Tryd.prog 6 = some (.int .u8 0) := by kernel_rfl
@[simp] theorem tk_7 : tk Tryd.prog 7 = .struct := by kernel_rfl
@[simp] theorem tsz_7 : tsz Tryd.prog 7 = some 4 := by kernel_rfl
@[simp] theorem tzero_7 : tzero Tryd.prog 7 = some ([.d (.int .i64 0), .d (.int .i64 0), .d (.bool false), .d (.int .u8 0)]) := by kernel_rfl
@[simp] theorem tbytes_7 : tbytes Tryd.prog 7 = some 24 := by kernel_rfl
@[simp] theorem tzeroD_7 : tzeroD Tryd.prog 7 = some (.agg ([.int .i64 0, .int .i64 0, .bool false, .int .u8 0])) := by kernel_rfl
@[simp] theorem foff_7_0 : foff Tryd.prog 7 0 = some 0 := by kernel_rfl
@[simp] theorem ftyp_7_0 : ftyp Tryd.prog 7 0 = some 2 := by kernel_rfl
@[simp] theorem foff_7_1 : foff Tryd.prog 7 1 = some 1 := by kernel_rfl
@[simp] theorem ftyp_7_1 : ftyp Tryd.prog 7 1 = some 3 := by kernel_rfl
@[simp] theorem foff_7_2 : foff Tryd.prog 7 2 = some 2 := by kernel_rfl
@[simp] theorem ftyp_7_2 : ftyp Tryd.prog 7 2 = some 4 := by kernel_rfl
@[simp] theorem foff_7_3 : foff Tryd.prog 7 3 = some 3 := by kernel_rfl
@[simp] theorem ftyp_7_3 : ftyp Tryd.prog 7 3 = some 6 := by kernel_rfl
@[simp] theorem fplace_7 : fplace Tryd.prog 7 = some [(0, 1), (1, 1), (2, 1), (3, 1)] := by kernel_rfl
@[simp] theorem tk_8 : tk Tryd.prog 8 = .struct := by kernel_rfl
@[simp] theorem tsz_8 : tsz Tryd.prog 8 = some 4 := by kernel_rfl
@[simp] theorem tzero_8 : tzero Tryd.prog 8 = some ([.d (.int .i64 0), .d (.int .i64 0), .d (.bool false), .d (.int .u8 0)]) := by kernel_rfl
@[simp] theorem tbytes_8 : tbytes Tryd.prog 8 = some 24 := by kernel_rfl
@[simp] theorem tzeroD_8 : tzeroD Tryd.prog 8 = some (.agg ([.int .i64 0, .int .i64 0, .bool false, .int .u8 0])) := by kernel_rfl
@[simp] theorem foff_8_0 : foff Tryd.prog 8 0 = some 0 := by kernel_rfl
@[simp] theorem ftyp_8_0 : ftyp Tryd.prog 8 0 = some 2 := by kernel_rfl
@[simp] theorem foff_8_1 : foff Tryd.prog 8 1 = some 1 := by kernel_rfl
@[simp] theorem ftyp_8_1 : ftyp Tryd.prog 8 1 = some 3 := by kernel_rfl
@[simp] theorem foff_8_2 : foff Tryd.prog 8 2 = some 2 := by kernel_rfl
@[simp] theorem ftyp_8_2 : ftyp Tryd.prog 8 2 = some 4 := by kernel_rfl
@[simp] theorem foff_8_3 : foff Tryd.prog 8 3 = some 3 := by kernel_rfl
@[simp] theorem ftyp_8_3 : ftyp Tryd.prog 8 3 = some 6 := by kernel_rfl
@[simp] theorem fplace_8 : fplace Tryd.prog 8 = some [(0, 1), (1, 1), (2, 1), (3, 1)] := by kernel_rfl
@[simp] theorem tk_9 : tk Tryd.prog 9 = .str := by kernel_rfl
@[simp] theorem tsz_9 : tsz Tryd.prog 9 = some 1 := by kernel_rfl
@[simp] theorem tzero_9 : tzero Tryd.prog 9 = some ([.d (.str [])]) := by kernel_rfl
@[simp] theorem tbytes_9 : tbytes Tryd.prog 9 = some 16 := by kernel_rfl
@[simp] theorem tzeroD_9 : tzeroD Tryd.prog 9 = some (.str []) := by kernel_rfl
@[simp] theorem srcTy_9 : srcTy Tryd.prog 9 = true := by kernel_rfl
@[simp] theorem tk_10 : tk Tryd.prog 10 = .str := by kernel_rfl
@[simp] theorem tsz_10 : tsz Tryd.prog 10 = some 1 := by kernel_rfl
@[simp] theorem tzero_10 : tzero Tryd.prog 10 = some ([.d (.str [])]) := by kernel_rfl
@[simp] theorem tbytes_10 : tbytes Tryd.prog 10 = some 16 := by kernel_rfl
@[simp] theorem tzeroD_10 : tzeroD Tryd.prog 10 = some (.str []) := by kernel_rfl
@[simp] theorem srcTy_10 : srcTy Tryd.prog 10 = true := by kernel_rfl
@[simp] theorem tk_11 : tk Tryd.prog 11 = .str := by kernel_rfl
@[simp] theorem tsz_11 : tsz Tryd.prog 11 = some 1 := by kernel_rfl
@[simp] theorem tzero_11 : tzero Tryd.prog 11 = some ([.d (.str [])]) := by kernel_rfl
@[simp] theorem tbytes_11 : tbytes Tryd.prog 11 = some 16 := by kernel_rfl
@[simp] theorem tzeroD_11 : tzeroD Tryd.prog 11 = some (.str []) := by kernel_rfl
@[simp] theorem srcTy_11 : srcTy Tryd.prog 11 = true := by kernel_rfl
@[simp] theorem tk_12 : tk Tryd.prog 12 = .int .u64 := by kernel_rfl
@[simp] theorem tsz_12 : tsz Tryd.prog 12 = some 1 := by kernel_rfl
@[simp] theorem tzero_12 : tzero Tryd.prog 12 = some ([.d (.int .u64 0)]) := by kernel_rfl
@[simp] theorem tbytes_12 : tbytes Tryd.prog 12 = some 8 := by kernel_rfl
@[simp] theorem tzeroD_12 : tzeroD Tryd.prog 12 = some (.int .u64 0) := by kernel_rfl
@[simp] theorem tk_13 : tk Tryd.prog 13 = .struct := by kernel_rfl
@[simp] theorem tsz_13 : tsz Tryd.prog 13 = some 2 := by kernel_rfl
@[simp] theorem tzero_13 : tzero Tryd.prog 13 = some ([.d (.str []), .d (.int .u64 0)]) := by kernel_rfl
@[simp] theorem tbytes_13 : tbytes Tryd.prog 13 = some 24 := by kernel_rfl
@[simp] theorem tzeroD_13 : tzeroD Tryd.prog 13 = some (.agg ([.str [], .int .u64 0])) := by kernel_rfl
@[simp] theorem foff_13_0 : foff Tryd.prog 13 0 = some 0 := by kernel_rfl
@[simp] theorem ftyp_13_0 : ftyp Tryd.prog 13 0 = some 9 := by kernel_rfl
@[simp] theorem foff_13_1 : foff Tryd.prog 13 1 = some 1 := by kernel_rfl
@[simp] theorem ftyp_13_1 : ftyp Tryd.prog 13 1 = some 12 := by kernel_rfl
@[simp] theorem fplace_13 : fplace Tryd.prog 13 = some [(0, 1), (1, 1)] := by kernel_rfl
@[simp] theorem tk_15 : tk Tryd.prog 15 = .ptr 265 := by kernel_rfl
@[simp] theorem tsz_15 : tsz Tryd.prog 15 = some 1 := by kernel_rfl
@[simp] theorem tk_16 : tk Tryd.prog 16 = .ptr 268 := by kernel_rfl
@[simp] theorem tsz_16 : tsz Tryd.prog 16 = some 1 := by kernel_rfl
@[simp] theorem tk_17 : tk Tryd.prog 17 = .ptr 276 := by kernel_rfl
@[simp] theorem tsz_17 : tsz Tryd.prog 17 = some 1 := by kernel_rfl
@[simp] theorem tk_18 : tk Tryd.prog 18 = .struct := by kernel_rfl
@[simp] theorem tsz_18 : tsz Tryd.prog 18 = some 1 := by kernel_rfl
@[simp] theorem tzero_18 : tzero Tryd.prog 18 = some ([.lit (.pointer none)]) := by kernel_rfl
@[simp] theorem foff_18_0 : foff Tryd.prog 18 0 = some 0 := by kernel_rfl
@[simp] theorem ftyp_18_0 : ftyp Tryd.prog 18 0 = some 17 := by kernel_rfl
@[simp] theorem fplace_18 : fplace Tryd.prog 18 = some [(0, 1)] := by kernel_rfl
@[simp] theorem tk_19 : tk Tryd.prog 19 = .struct := by kernel_rfl
@[simp] theorem tsz_19 : tsz Tryd.prog 19 = some 1 := by kernel_rfl
@[simp] theorem tzero_19 : tzero Tryd.prog 19 = some ([.lit (.pointer none)]) := by kernel_rfl
@[simp] theorem foff_19_0 : foff Tryd.prog 19 0 = some 0 := by kernel_rfl
@[simp] theorem ftyp_19_0 : ftyp Tryd.prog 19 0 = some 17 := by kernel_rfl
@[simp] theorem fplace_19 : fplace Tryd.prog 19 = some [(0, 1)] := by kernel_rfl
@[simp] theorem tk_20 : tk Tryd.prog 20 = .iface := by kernel_rfl
@[simp] theorem tsz_20 : tsz Tryd.prog 20 = some 1 := by kernel_rfl
@[simp] theorem tk_21 : tk Tryd.prog 21 = .int .i32 := by kernel_rfl
@[simp] theorem tsz_21 : tsz Tryd.prog 21 = some 1 := by kernel_rfl
@[simp] theorem tzero_21 : tzero Tryd.prog 21 = some ([.d (.int .i32 0)]) := by kernel_rfl
@[simp] theorem tbytes_21 : tbytes Tryd.prog 21 = some 4 := by kernel_rfl
@[simp] theorem tzeroD_21 : tzeroD Tryd.prog 21 = some (.int .i32 0) := by kernel_rfl
@[simp] theorem tk_24 : tk Tryd.prog 24 = .slice 40 := by kernel_rfl
@[simp] theorem tsz_24 : tsz Tryd.prog 24 = some 1 := by kernel_rfl
@[simp] theorem tzero_24 : tzero Tryd.prog 24 = some ([.lit (.slice none 0 0)]) := by kernel_rfl
@[simp] theorem tbytes_24 : tbytes Tryd.prog 24 = some 24 := by kernel_rfl
@[simp] theorem tzeroD_24 : tzeroD Tryd.prog 24 = some (.list []) := by kernel_rfl
@[simp] theorem srcTy_24 : srcTy Tryd.prog 24 = true := by kernel_rfl
@[simp] theorem tk_27 : tk Tryd.prog 27 = .int .i64 := by kernel_rfl
@[simp] theorem tsz_27 : tsz Tryd.prog 27 = some 1 := by kernel_rfl
@[simp] theorem tzero_27 : tzero Tryd.prog 27 = some ([.d (.int .i64 0)]) := by kernel_rfl
@[simp] theorem tbytes_27 : tbytes Tryd.prog 27 = some 8 := by kernel_rfl
@[simp] theorem tzeroD_27 : tzeroD Tryd.prog 27 = some (.int .i64 0) := by kernel_rfl
@[simp] theorem tk_28 : tk Tryd.prog 28 = .struct := by kernel_rfl
@[simp] theorem tsz_28 : tsz Tryd.prog 28 = some 5 := by kernel_rfl
@[simp] theorem tzero_28 : tzero Tryd.prog 28 = some ([.d (.int .i64 0), .d (.str []), .d (.int .i64 0), .d (.int .i64 0), .d (.int .i64 0)]) := by kernel_rfl
@[simp] theorem tbytes_28 : tbytes Tryd.prog 28 = some 48 := by kernel_rfl
@[simp] theorem tzeroD_28 : tzeroD Tryd.prog 28 = some (.agg ([.int .i64 0, .str [], .int .i64 0, .int .i64 0, .int .i64 0])) := by kernel_rfl
@[simp] theorem foff_28_0 : foff Tryd.prog 28 0 = some 0 := by kernel_rfl
@[simp] theorem ftyp_28_0 : ftyp Tryd.prog 28 0 = some 3 := by kernel_rfl
@[simp] theorem foff_28_1 : foff Tryd.prog 28 1 = some 1 := by kernel_rfl
@[simp] theorem ftyp_28_1 : ftyp Tryd.prog 28 1 = some 9 := by kernel_rfl
@[simp] theorem foff_28_2 : foff Tryd.prog 28 2 = some 2 := by kernel_rfl
@[simp] theorem ftyp_28_2 : ftyp Tryd.prog 28 2 = some 2 := by kernel_rfl
@[simp] theorem foff_28_3 : foff Tryd.prog 28 3 = some 3 := by kernel_rfl
@[simp] theorem ftyp_28_3 : ftyp Tryd.prog 28 3 = some 3 := by kernel_rfl
@[simp] theorem foff_28_4 : foff Tryd.prog 28 4 = some 4 := by kernel_rfl
@[simp] theorem ftyp_28_4 : ftyp Tryd.prog 28 4 = some 3 := by kernel_rfl
@[simp] theorem fplace_28 : fplace Tryd.prog 28 = some [(0, 1), (1, 1), (2, 1), (3, 1), (4, 1)] := by kernel_rfl
@[simp] theorem flat_28 : flatStruct Tryd.prog 28 = some [.int .i64, .str, .int .i64, .int .i64, .int .i64] := by kernel_rfl
@[simp] theorem tk_29 : tk Tryd.prog 29 = .struct := by kernel_rfl
@[simp] theorem tsz_29 : tsz Tryd.prog 29 = some 5 := by kernel_rfl
@[simp] theorem tzero_29 : tzero Tryd.prog 29 = some ([.d (.int .i64 0), .d (.str []), .d (.int .i64 0), .d (.int .i64 0), .d (.int .i64 0)]) := by kernel_rfl
@[simp] theorem tbytes_29 : tbytes Tryd.prog 29 = some 48 := by kernel_rfl
@[simp] theorem tzeroD_29 : tzeroD Tryd.prog 29 = some (.agg ([.int .i64 0, .str [], .int .i64 0, .int .i64 0, .int .i64 0])) := by kernel_rfl
@[simp] theorem foff_29_0 : foff Tryd.prog 29 0 = some 0 := by kernel_rfl
@[simp] theorem ftyp_29_0 : ftyp Tryd.prog 29 0 = some 3 := by kernel_rfl
@[simp] theorem foff_29_1 : foff Tryd.prog 29 1 = some 1 := by kernel_rfl
@[simp] theorem ftyp_29_1 : ftyp Tryd.prog 29 1 = some 9 := by kernel_rfl
@[simp] theorem foff_29_2 : foff Tryd.prog 29 2 = some 2 := by kernel_rfl
@[simp] theorem ftyp_29_2 : ftyp Tryd.prog 29 2 = some 2 := by kernel_rfl
@[simp] theorem foff_29_3 : foff Tryd.prog 29 3 = some 3 := by kernel_rfl
@[simp] theorem ftyp_29_3 : ftyp Tryd.prog 29 3 = some 3 := by kernel_rfl
@[simp] theorem foff_29_4 : foff Tryd.prog 29 4 = some 4 := by kernel_rfl
@[simp] theorem ftyp_29_4 : ftyp Tryd.prog 29 4 = some 3 := by kernel_rfl
@[simp] theorem fplace_29 : fplace Tryd.prog 29 = some [(0, 1), (1, 1), (2, 1), (3, 1), (4, 1)] := by kernel_rfl
@[simp] theorem flat_29 : flatStruct Tryd.prog 29 = some [.int .i64, .str, .int .i64, .int .i64, .int .i64] := by kernel_rfl
@[simp] theorem tk_31 : tk Tryd.prog 31 = .func := by kernel_rfl
@[simp] theorem tsz_31 : tsz Tryd.prog 31 = some 1 := by kernel_rfl
@[simp] theorem tk_32 : tk Tryd.prog 32 = .func := by kernel_rfl
@[simp] theorem tsz_32 : tsz Tryd.prog 32 = some 1 := by kernel_rfl
@[simp] theorem tk_33 : tk Tryd.prog 33 = .slice 35 := by kernel_rfl
@[simp] theorem tsz_33 : tsz Tryd.prog 33 = some 1 := by kernel_rfl
@[simp] theorem tzero_33 : tzero Tryd.prog 33 = some ([.lit (.slice none 0 0)]) := by kernel_rfl
@[simp] theorem tbytes_33 : tbytes Tryd.prog 33 = some 24 := by kernel_rfl
@[simp] theorem tzeroD_33 : tzeroD Tryd.prog 33 = some (.list []) := by kernel_rfl
@[simp] theorem srcTy_33 : srcTy Tryd.prog 33 = true := by kernel_rfl
@[simp] theorem tk_34 : tk Tryd.prog 34 = .struct := by kernel_rfl
@[simp] theorem tsz_34 : tsz Tryd.prog 34 = some 6 := by kernel_rfl
@[simp] theorem tzero_34 : tzero Tryd.prog 34 = some ([.d (.int .i64 0), .d (.int .i64 0), .d (.str []), .d (.str []), .lit (.slice none 0 0), .d (.int .i64 0)]) := by kernel_rfl
@[simp] theorem tbytes_34 : tbytes Tryd.prog 34 = some 80 := by kernel_rfl
@[simp] theorem tzeroD_34 : tzeroD Tryd.prog 34 = some (.agg ([.int .i64 0, .int .i64 0, .str [], .str [], .list [], .int .i64 0])) := by kernel_rfl
@[simp] theorem foff_34_0 : foff Tryd.prog 34 0 = some 0 := by kernel_rfl
@[simp] theorem ftyp_34_0 : ftyp Tryd.prog 34 0 = some 3 := by kernel_rfl
@[simp] theorem foff_34_1 : foff Tryd.prog 34 1 = some 1 := by kernel_rfl
@[simp] theorem ftyp_34_1 : ftyp Tryd.prog 34 1 = some 2 := by kernel_rfl
@[simp] theorem foff_34_2 : foff Tryd.prog 34 2 = some 2 := by kernel_rfl
@[simp] theorem ftyp_34_2 : ftyp Tryd.prog 34 2 = some 9 := by kernel_rfl
@[simp] theorem foff_34_3 : foff Tryd.prog 34 3 = some 3 := by kernel_rfl
@[simp] theorem ftyp_34_3 : ftyp Tryd.prog 34 3 = some 9 := by kernel_rfl
@[simp] theorem foff_34_4 : foff Tryd.prog 34 4 = some 4 := by kernel_rfl
@[simp] theorem ftyp_34_4 : ftyp Tryd.prog 34 4 = some 33 := by kernel_rfl
@[simp] theorem foff_34_5 : foff Tryd.prog 34 5 = some 5 := by kernel_rfl
@[simp] theorem ftyp_34_5 : ftyp Tryd.prog 34 5 = some 3 := by kernel_rfl
@[simp] theorem fplace_34 : fplace Tryd.prog 34 = some [(0, 1), (1, 1), (2, 1), (3, 1), (4, 1), (5, 1)] := by kernel_rfl
@[simp] theorem tk_35 : tk Tryd.prog 35 = .struct := by kernel_rfl
@[simp] theorem tsz_35 : tsz Tryd.prog 35 = some 6 := by kernel_rfl
@[simp] theorem tzero_35 : tzero Tryd.prog 35 = some ([.d (.int .i64 0), .d (.int .i64 0), .d (.str []), .d (.str []), .lit (.slice none 0 0), .d (.int .i64 0)]) := by kernel_rfl
@[simp] theorem tbytes_35 : tbytes Tryd.prog 35 = some 80 := by kernel_rfl
@[simp] theorem tzeroD_35 : tzeroD Tryd.prog 35 = some (.agg ([.int .i64 0, .int .i64 0, .str [], .str [], .list [], .int .i64 0])) := by kernel_rfl
@[simp] theorem foff_35_0 : foff Tryd.prog 35 0 = some 0 := by kernel_rfl
@[simp] theorem ftyp_35_0 : ftyp Tryd.prog 35 0 = some 3 := by kernel_rfl
@[simp] theorem foff_35_1 : foff Tryd.prog 35 1 = some 1 := by kernel_rfl
@[simp] theorem ftyp_35_1 : ftyp Tryd.prog 35 1 = some 2 := by kernel_rfl
@[simp] theorem foff_35_2 : foff Tryd.prog 35 2 = some 2 := by kernel_rfl
@[simp] theorem ftyp_35_2 : ftyp Tryd.prog 35 2 = some 9 := by kernel_rfl
@[simp] theorem foff_35_3 : foff Tryd.prog 35 3 = some 3 := by kernel_rfl
@[simp] theorem ftyp_35_3 : ftyp Tryd.prog 35 3 = some 9 := by kernel_rfl
@[simp] theorem foff_35_4 : foff Tryd.prog 35 4 = some 4 := by kernel_rfl
@[simp] theorem ftyp_35_4 : ftyp Tryd.prog 35 4 = some 33 := by kernel_rfl
@[simp] theorem foff_35_5 : foff Tryd.prog 35 5 = some 5 := by kernel_rfl
@[simp] theorem ftyp_35_5 : ftyp Tryd.prog 35 5 = some 3 := by kernel_rfl
@[simp] theorem fplace_35 : fplace Tryd.prog 35 = some [(0, 1), (1, 1), (2, 1), (3, 1), (4, 1), (5, 1)] := by kernel_rfl
@[simp] theorem tk_36 : tk Tryd.prog 36 = .slice 83 := by kernel_rfl
@[simp] theorem tsz_36 : tsz Tryd.prog 36 = some 1 := by kernel_rfl
@[simp] theorem tzero_36 : tzero Tryd.prog 36 = some ([.lit (.slice none 0 0)]) := by kernel_rfl
@[simp] theorem tbytes_36 : tbytes Tryd.prog 36 = some 24 := by kernel_rfl
@[simp] theorem tzeroD_36 : tzeroD Tryd.prog 36 = some (.list []) := by kernel_rfl
@[simp] theorem srcTy_36 : srcTy Tryd.prog 36 = true := by kernel_rfl
@[simp] theorem tk_37 : tk Tryd.prog 37 = .slice 9 := by kernel_rfl
@[simp] theorem tsz_37 : tsz Tryd.prog 37 = some 1 := by kernel_rfl
@[simp] theorem tzero_37 : tzero Tryd.prog 37 = some ([.lit (.slice none 0 0)]) := by kernel_rfl
@[simp] theorem tbytes_37 : tbytes Tryd.prog 37 = some 24 := by kernel_rfl
@[simp] theorem tzeroD_37 : tzeroD Tryd.prog 37 = some (.list []) := by kernel_rfl
@[simp] theorem srcTy_37 : srcTy Tryd.prog 37 = true := by kernel_rfl
@[simp] theorem tk_38 : tk Tryd.prog 38 = .slice 24 := by kernel_rfl
@[simp] theorem tsz_38 : tsz Tryd.prog 38 = some 1 := by kernel_rfl
@[simp] theorem tzero_38 : tzero Tryd.prog 38 = some ([.lit (.slice none 0 0)]) := by kernel_rfl
@[simp] theorem tbytes_38 : tbytes Tryd.prog 38 = some 24 := by kernel_rfl
@[simp] theorem tzeroD_38 : tzeroD Tryd.prog 38 = some (.list []) := by kernel_rfl
@[simp] theorem srcTy_38 : srcTy Tryd.prog 38 = true := by kernel_rfl
@[simp] theorem tk_39 : tk Tryd.prog 39 = .struct := by kernel_rfl
@[simp] theorem tsz_39 : tsz Tryd.prog 39 = some 19 := by kernel_rfl
@[simp] theorem tzero_39 : tzero Tryd.prog 39 = some ([.d (.int .i64 0), .d (.str []), .d (.int .i64 0), .d (.int .i64 0), .d (.str []), .d (.str []), .lit (.slice none 0 0), .d (.int .i64 0), .d (.int .i64 0), .d (.int .i64 0), .d (.str []), .d (.str []), .lit (.slice none 0 0), .d (.int .i64 0), .lit (.slice none 0 0), .lit (.slice none 0 0), .lit (.slice none 0 0), .lit (.slice none 0 0), .d (.int .i64 0)]) := by kernel_rfl
@[simp] theorem tbytes_39 : tbytes Tryd.prog 39 = some 288 := by kernel_rfl
@[simp] theorem tzeroD_39 : tzeroD Tryd.prog 39 = some (.agg ([.int .i64 0, .str [], .int .i64 0, .int .i64 0, .str [], .str [], .list [], .int .i64 0, .int .i64 0, .int .i64 0, .str [], .str [], .list [], .int .i64 0, .list [], .list [], .list [], .list [], .int .i64 0])) := by kernel_rfl
@[simp] theorem foff_39_0 : foff Tryd.prog 39 0 = some 0 := by kernel_rfl
@[simp] theorem ftyp_39_0 : ftyp Tryd.prog 39 0 = some 3 := by kernel_rfl
@[simp] theorem foff_39_1 : foff Tryd.prog 39 1 = some 1 := by kernel_rfl
@[simp] theorem ftyp_39_1 : ftyp Tryd.prog 39 1 = some 9 := by kernel_rfl
@[simp] theorem foff_39_2 : foff Tryd.prog 39 2 = some 2 := by kernel_rfl
@[simp] theorem ftyp_39_2 : ftyp Tryd.prog 39 2 = some 35 := by kernel_rfl
@[simp] theorem foff_39_3 : foff Tryd.prog 39 3 = some 8 := by kernel_rfl
@[simp] theorem ftyp_39_3 : ftyp Tryd.prog 39 3 = some 35 := by kernel_rfl
@[simp] theorem foff_39_4 : foff Tryd.prog 39 4 = some 14 := by kernel_rfl
@[simp] theorem ftyp_39_4 : ftyp Tryd.prog 39 4 = some 33 := by kernel_rfl
@[simp] theorem foff_39_5 : foff Tryd.prog 39 5 = some 15 := by kernel_rfl
@[simp] theorem ftyp_39_5 : ftyp Tryd.prog 39 5 = some 36 := by kernel_rfl
@[simp] theorem foff_39_6 : foff Tryd.prog 39 6 = some 16 := by kernel_rfl
@[simp] theorem ftyp_39_6 : ftyp Tryd.prog 39 6 = some 37 := by kernel_rfl
@[simp] theorem foff_39_7 : foff Tryd.prog 39 7 = some 17 := by kernel_rfl
@[simp] theorem ftyp_39_7 : ftyp Tryd.prog 39 7 = some 38 := by kernel_rfl
@[simp] theorem foff_39_8 : foff Tryd.prog 39 8 = some 18 := by kernel_rfl
@[simp] theorem ftyp_39_8 : ftyp Tryd.prog 39 8 = some 3 := by kernel_rfl
@[simp] theorem fplace_39 : fplace Tryd.prog 39 = some [(0, 1), (1, 1), (2, 6), (8, 6), (14, 1), (15, 1), (16, 1), (17, 1), (18, 1)] := by kernel_rfl
@[simp] theorem tk_40 : tk Tryd.prog 40 = .struct := by kernel_rfl
@[simp] theorem tsz_40 : tsz Tryd.prog 40 = some 19 := by kernel_rfl
@[simp] theorem tzero_40 : tzero Tryd.prog 40 = some ([.d (.int .i64 0), .d (.str []), .d (.int .i64 0), .d (.int .i64 0), .d (.str []), .d (.str []), .lit (.slice none 0 0), .d (.int .i64 0), .d (.int .i64 0), .d (.int .i64 0), .d (.str []), .d (.str []), .lit (.slice none 0 0), .d (.int .i64 0), .lit (.slice none 0 0), .lit (.slice none 0 0), .lit (.slice none 0 0), .lit (.slice none 0 0), .d (.int .i64 0)]) := by kernel_rfl
@[simp] theorem tbytes_40 : tbytes Tryd.prog 40 = some 288 := by kernel_rfl
@[simp] theorem tzeroD_40 : tzeroD Tryd.prog 40 = some (.agg ([.int .i64 0, .str [], .int .i64 0, .int .i64 0, .str [], .str [], .list [], .int .i64 0, .int .i64 0, .int .i64 0, .str [], .str [], .list [], .int .i64 0, .list [], .list [], .list [], .list [], .int .i64 0])) := by kernel_rfl
@[simp] theorem foff_40_0 : foff Tryd.prog 40 0 = some 0 := by kernel_rfl
@[simp] theorem ftyp_40_0 : ftyp Tryd.prog 40 0 = some 3 := by kernel_rfl
@[simp] theorem foff_40_1 : foff Tryd.prog 40 1 = some 1 := by kernel_rfl
@[simp] theorem ftyp_40_1 : ftyp Tryd.prog 40 1 = some 9 := by kernel_rfl
@[simp] theorem foff_40_2 : foff Tryd.prog 40 2 = some 2 := by kernel_rfl
@[simp] theorem ftyp_40_2 : ftyp Tryd.prog 40 2 = some 35 := by kernel_rfl
@[simp] theorem foff_40_3 : foff Tryd.prog 40 3 = some 8 := by kernel_rfl
@[simp] theorem ftyp_40_3 : ftyp Tryd.prog 40 3 = some 35 := by kernel_rfl
@[simp] theorem foff_40_4 : foff Tryd.prog 40 4 = some 14 := by kernel_rfl
@[simp] theorem ftyp_40_4 : ftyp Tryd.prog 40 4 = some 33 := by kernel_rfl
@[simp] theorem foff_40_5 : foff Tryd.prog 40 5 = some 15 := by kernel_rfl
@[simp] theorem ftyp_40_5 : ftyp Tryd.prog 40 5 = some 36 := by kernel_rfl
@[simp] theorem foff_40_6 : foff Tryd.prog 40 6 = some 16 := by kernel_rfl
@[simp] theorem ftyp_40_6 : ftyp Tryd.prog 40 6 = some 37 := by kernel_rfl
@[simp] theorem foff_40_7 : foff Tryd.prog 40 7 = some 17 := by kernel_rfl
@[simp] theorem ftyp_40_7 : ftyp Tryd.prog 40 7 = some 38 := by kernel_rfl
@[simp] theorem foff_40_8 : foff Tryd.prog 40 8 = some 18 := by kernel_rfl
@[simp] theorem ftyp_40_8 : ftyp Tryd.prog 40 8 = some 3 := by kernel_rfl
@[simp] theorem fplace_40 : fplace Tryd.prog 40 = some [(0, 1), (1, 1), (2, 6), (8, 6), (14, 1), (15, 1), (16, 1), (17, 1), (18, 1)] := by kernel_rfl
@[simp] theorem tk_42 : tk Tryd.prog 42 = .slice 76 := by kernel_rfl
@[simp] theorem tsz_42 : tsz Tryd.prog 42 = some 1 := by kernel_rfl
@[simp] theorem tzero_42 : tzero Tryd.prog 42 = some ([.lit (.slice none 0 0)]) := by kernel_rfl
@[simp] theorem tbytes_42 : tbytes Tryd.prog 42 = some 24 := by kernel_rfl
@[simp] theorem tzeroD_42 : tzeroD Tryd.prog 42 = some (.list []) := by kernel_rfl
@[simp] theorem srcTy_42 : srcTy Tryd.prog 42 = true := by kernel_rfl
@[simp] theorem tk_43 : tk Tryd.prog 43 = .struct := by kernel_rfl
@[simp] theorem tsz_43 : tsz Tryd.prog 43 = some 2 := by kernel_rfl
@[simp] theorem tzero_43 : tzero Tryd.prog 43 = some ([.d (.int .i64 0), .lit (.slice none 0 0)]) := by kernel_rfl
@[simp] theorem tbytes_43 : tbytes Tryd.prog 43 = some 32 := by kernel_rfl
@[simp] theorem tzeroD_43 : tzeroD Tryd.prog 43 = some (.agg ([.int .i64 0, .list []])) := by kernel_rfl
@[simp] theorem foff_43_0 : foff Tryd.prog 43 0 = some 0 := by kernel_rfl
@[simp] theorem ftyp_43_0 : ftyp Tryd.prog 43 0 = some 3 := by kernel_rfl
@[simp] theorem foff_43_1 : foff Tryd.prog 43 1 = some 1 := by kernel_rfl
@[simp] theorem ftyp_43_1 : ftyp Tryd.prog 43 1 = some 42 := by kernel_rfl
@[simp] theorem fplace_43 : fplace Tryd.prog 43 = some [(0, 1), (1, 1)] := by kernel_rfl
@[simp] theorem tk_44 : tk Tryd.prog 44 = .struct := by kernel_rfl
@[simp] theorem tsz_44 : tsz Tryd.prog 44 = some 2 := by kernel_rfl
@[simp] theorem tzero_44 : tzero Tryd.prog 44 = some ([.d (.int .i64 0), .lit (.slice none 0 0)]) := by kernel_rfl
@[simp] theorem tbytes_44 : tbytes Tryd.prog 44 = some 32 := by kernel_rfl
@[simp] theorem tzeroD_44 : tzeroD Tryd.prog 44 = some (.agg ([.int .i64 0, .list []])) := by kernel_rfl
@[simp] theorem foff_44_0 : foff Tryd.prog 44 0 = some 0 := by kernel_rfl
@[simp] theorem ftyp_44_0 : ftyp Tryd.prog 44 0 = some 3 := by kernel_rfl
@[simp] theorem foff_44_1 : foff Tryd.prog 44 1 = some 1 := by kernel_rfl
@[simp] theorem ftyp_44_1 : ftyp Tryd.prog 44 1 = some 42 := by kernel_rfl
@[simp] theorem fplace_44 : fplace Tryd.prog 44 = some [(0, 1), (1, 1)] := by kernel_rfl
@[simp] theorem tk_48 : tk Tryd.prog 48 = .func := by kernel_rfl
@[simp] theorem tsz_48 : tsz Tryd.prog 48 = some 1 := by kernel_rfl
@[simp] theorem tk_50 : tk Tryd.prog 50 = .func := by kernel_rfl
@[simp] theorem tsz_50 : tsz Tryd.prog 50 = some 1 := by kernel_rfl
@[simp] theorem tk_51 : tk Tryd.prog 51 = .slice 5 := by kernel_rfl
@[simp] theorem tsz_51 : tsz Tryd.prog 51 = some 1 := by kernel_rfl
@[simp] theorem tzero_51 : tzero Tryd.prog 51 = some ([.lit (.slice none 0 0)]) := by kernel_rfl
@[simp] theorem tbytes_51 : tbytes Tryd.prog 51 = some 24 := by kernel_rfl
@[simp] theorem tzeroD_51 : tzeroD Tryd.prog 51 = some (.list []) := by kernel_rfl
@[simp] theorem srcTy_51 : srcTy Tryd.prog 51 = true := by kernel_rfl
@[simp] theorem tk_57 : tk Tryd.prog 57 = .func := by kernel_rfl
@[simp] theorem tsz_57 : tsz Tryd.prog 57 = some 1 := by kernel_rfl
@[simp] theorem tk_63 : tk Tryd.prog 63 = .slice 29 := by kernel_rfl
@[simp] theorem tsz_63 : tsz Tryd.prog 63 = some 1 := by kernel_rfl
@[simp] theorem tzero_63 : tzero Tryd.prog 63 = some ([.lit (.slice none 0 0)]) := by kernel_rfl
@[simp] theorem tbytes_63 : tbytes Tryd.prog 63 = some 24 := by kernel_rfl
@[simp] theorem tzeroD_63 : tzeroD Tryd.prog 63 = some (.list []) := by kernel_rfl
@[simp] theorem srcTy_63 : srcTy Tryd.prog 63 = true := by kernel_rfl
@[simp] theorem tk_65 : tk Tryd.prog 65 = .func := by kernel_rfl
@[simp] theorem tsz_65 : tsz Tryd.prog 65 = some 1 := by kernel_rfl
@[simp] theorem tk_73 : tk Tryd.prog 73 = .struct := by kernel_rfl
@[simp] theorem tsz_73 : tsz Tryd.prog 73 = some 5 := by kernel_rfl
@[simp] theorem tzero_73 : tzero Tryd.prog 73 = some ([.d (.int .i64 0), .d (.int .i64 0), .d (.int .i64 0), .d (.int .i64 0), .d (.int .i64 0)]) := by kernel_rfl
@[simp] theorem tbytes_73 : tbytes Tryd.prog 73 = some 40 := by kernel_rfl
@[simp] theorem tzeroD_73 : tzeroD Tryd.prog 73 = some (.agg ([.int .i64 0, .int .i64 0, .int .i64 0, .int .i64 0, .int .i64 0])) := by kernel_rfl
@[simp] theorem foff_73_0 : foff Tryd.prog 73 0 = some 0 := by kernel_rfl
@[simp] theorem ftyp_73_0 : ftyp Tryd.prog 73 0 = some 2 := by kernel_rfl
@[simp] theorem foff_73_1 : foff Tryd.prog 73 1 = some 1 := by kernel_rfl
@[simp] theorem ftyp_73_1 : ftyp Tryd.prog 73 1 = some 2 := by kernel_rfl
@[simp] theorem foff_73_2 : foff Tryd.prog 73 2 = some 2 := by kernel_rfl
@[simp] theorem ftyp_73_2 : ftyp Tryd.prog 73 2 = some 2 := by kernel_rfl
@[simp] theorem foff_73_3 : foff Tryd.prog 73 3 = some 3 := by kernel_rfl
@[simp] theorem ftyp_73_3 : ftyp Tryd.prog 73 3 = some 2 := by kernel_rfl
@[simp] theorem foff_73_4 : foff Tryd.prog 73 4 = some 4 := by kernel_rfl
@[simp] theorem ftyp_73_4 : ftyp Tryd.prog 73 4 = some 2 := by kernel_rfl
@[simp] theorem fplace_73 : fplace Tryd.prog 73 = some [(0, 1), (1, 1), (2, 1), (3, 1), (4, 1)] := by kernel_rfl
@[simp] theorem flat_73 : flatStruct Tryd.prog 73 = some [.int .i64, .int .i64, .int .i64, .int .i64, .int .i64] := by kernel_rfl
@[simp] theorem tk_74 : tk Tryd.prog 74 = .struct := by kernel_rfl
@[simp] theorem tsz_74 : tsz Tryd.prog 74 = some 5 := by kernel_rfl
@[simp] theorem tzero_74 : tzero Tryd.prog 74 = some ([.d (.int .i64 0), .d (.int .i64 0), .d (.int .i64 0), .d (.int .i64 0), .d (.int .i64 0)]) := by kernel_rfl
@[simp] theorem tbytes_74 : tbytes Tryd.prog 74 = some 40 := by kernel_rfl
@[simp] theorem tzeroD_74 : tzeroD Tryd.prog 74 = some (.agg ([.int .i64 0, .int .i64 0, .int .i64 0, .int .i64 0, .int .i64 0])) := by kernel_rfl
@[simp] theorem foff_74_0 : foff Tryd.prog 74 0 = some 0 := by kernel_rfl
@[simp] theorem ftyp_74_0 : ftyp Tryd.prog 74 0 = some 2 := by kernel_rfl
@[simp] theorem foff_74_1 : foff Tryd.prog 74 1 = some 1 := by kernel_rfl
@[simp] theorem ftyp_74_1 : ftyp Tryd.prog 74 1 = some 2 := by kernel_rfl
@[simp] theorem foff_74_2 : foff Tryd.prog 74 2 = some 2 := by kernel_rfl
@[simp] theorem ftyp_74_2 : ftyp Tryd.prog 74 2 = some 2 := by kernel_rfl
@[simp] theorem foff_74_3 : foff Tryd.prog 74 3 = some 3 := by kernel_rfl
@[simp] theorem ftyp_74_3 : ftyp Tryd.prog 74 3 = some 2 := by kernel_rfl
@[simp] theorem foff_74_4 : foff Tryd.prog 74 4 = some 4 := by kernel_rfl
@[simp] theorem ftyp_74_4 : ftyp Tryd.prog 74 4 = some 2 := by kernel_rfl
@[simp] theorem fplace_74 : fplace Tryd.prog 74 = some [(0, 1), (1, 1), (2, 1), (3, 1), (4, 1)] := by kernel_rfl
@[simp] theorem flat_74 : flatStruct Tryd.prog 74 = some [.int .i64, .int .i64, .int .i64, .int .i64, .int .i64] := by kernel_rfl
@[simp] theorem tk_75 : tk Tryd.prog 75 = .struct := by kernel_rfl
@[simp] theorem tsz_75 : tsz Tryd.prog 75 = some 12 := by kernel_rfl
@[simp] theorem tzero_75 : tzero Tryd.prog 75 = some ([.d (.int .i64 0), .d (.int .i64 0), .d (.int .i64 0), .d (.int .i64 0), .d (.int .i64 0), .d (.int .i64 0), .d (.int .i64 0), .d (.int .i64 0), .d (.int .i64 0), .d (.int .i64 0), .d (.int .i64 0), .d (.int .i64 0)]) := by kernel_rfl
@[simp] theorem tbytes_75 : tbytes Tryd.prog 75 = some 96 := by kernel_rfl
@[simp] theorem tzeroD_75 : tzeroD Tryd.prog 75 = some (.agg ([.int .i64 0, .int .i64 0, .int .i64 0, .int .i64 0, .int .i64 0, .int .i64 0, .int .i64 0, .int .i64 0, .int .i64 0, .int .i64 0, .int .i64 0, .int .i64 0])) := by kernel_rfl
@[simp] theorem foff_75_0 : foff Tryd.prog 75 0 = some 0 := by kernel_rfl
@[simp] theorem ftyp_75_0 : ftyp Tryd.prog 75 0 = some 74 := by kernel_rfl
@[simp] theorem foff_75_1 : foff Tryd.prog 75 1 = some 5 := by kernel_rfl
@[simp] theorem ftyp_75_1 : ftyp Tryd.prog 75 1 = some 3 := by kernel_rfl
@[simp] theorem foff_75_2 : foff Tryd.prog 75 2 = some 6 := by kernel_rfl
@[simp] theorem ftyp_75_2 : ftyp Tryd.prog 75 2 = some 2 := by kernel_rfl
@[simp] theorem foff_75_3 : foff Tryd.prog 75 3 = some 7 := by kernel_rfl
@[simp] theorem ftyp_75_3 : ftyp Tryd.prog 75 3 = some 2 := by kernel_rfl
@[simp] theorem foff_75_4 : foff Tryd.prog 75 4 = some 8 := by kernel_rfl
@[simp] theorem ftyp_75_4 : ftyp Tryd.prog 75 4 = some 2 := by kernel_rfl
@[simp] theorem foff_75_5 : foff Tryd.prog 75 5 = some 9 := by kernel_rfl
@[simp] theorem ftyp_75_5 : ftyp Tryd.prog 75 5 = some 3 := by kernel_rfl
@[simp] theorem foff_75_6 : foff Tryd.prog 75 6 = some 10 := by kernel_rfl
@[simp] theorem ftyp_75_6 : ftyp Tryd.prog 75 6 = some 3 := by kernel_rfl
@[simp] theorem foff_75_7 : foff Tryd.prog 75 7 = some 11 := by kernel_rfl
@[simp] theorem ftyp_75_7 : ftyp Tryd.prog 75 7 = some 2 := by kernel_rfl
@[simp] theorem fplace_75 : fplace Tryd.prog 75 = some [(0, 5), (5, 1), (6, 1), (7, 1), (8, 1), (9, 1), (10, 1), (11, 1)] := by kernel_rfl
@[simp] theorem flat_75 : flatStruct Tryd.prog 75 = some [.int .i64, .int .i64, .int .i64, .int .i64, .int .i64, .int .i64, .int .i64, .int .i64, .int .i64, .int .i64, .int .i64, .int .i64] := by kernel_rfl
@[simp] theorem tk_76 : tk Tryd.prog 76 = .struct := by kernel_rfl
@[simp] theorem tsz_76 : tsz Tryd.prog 76 = some 12 := by kernel_rfl
@[simp] theorem tzero_76 : tzero Tryd.prog 76 = some ([.d (.int .i64 0), .d (.int .i64 0), .d (.int .i64 0), .d (.int .i64 0), .d (.int .i64 0), .d (.int .i64 0), .d (.int .i64 0), .d (.int .i64 0), .d (.int .i64 0), .d (.int .i64 0), .d (.int .i64 0), .d (.int .i64 0)]) := by kernel_rfl
@[simp] theorem tbytes_76 : tbytes Tryd.prog 76 = some 96 := by kernel_rfl
@[simp] theorem tzeroD_76 : tzeroD Tryd.prog 76 = some (.agg ([.int .i64 0, .int .i64 0, .int .i64 0, .int .i64 0, .int .i64 0, .int .i64 0, .int .i64 0, .int .i64 0, .int .i64 0, .int .i64 0, .int .i64 0, .int .i64 0])) := by kernel_rfl
@[simp] theorem foff_76_0 : foff Tryd.prog 76 0 = some 0 := by kernel_rfl
@[simp] theorem ftyp_76_0 : ftyp Tryd.prog 76 0 = some 74 := by kernel_rfl
@[simp] theorem foff_76_1 : foff Tryd.prog 76 1 = some 5 := by kernel_rfl
@[simp] theorem ftyp_76_1 : ftyp Tryd.prog 76 1 = some 3 := by kernel_rfl
@[simp] theorem foff_76_2 : foff Tryd.prog 76 2 = some 6 := by kernel_rfl
@[simp] theorem ftyp_76_2 : ftyp Tryd.prog 76 2 = some 2 := by kernel_rfl
@[simp] theorem foff_76_3 : foff Tryd.prog 76 3 = some 7 := by kernel_rfl
@[simp] theorem ftyp_76_3 : ftyp Tryd.prog 76 3 = some 2 := by kernel_rfl
@[simp] theorem foff_76_4 : foff Tryd.prog 76 4 = some 8 := by kernel_rfl
@[simp] theorem ftyp_76_4 : ftyp Tryd.prog 76 4 = some 2 := by kernel_rfl
@[simp] theorem foff_76_5 : foff Tryd.prog 76 5 = some 9 := by kernel_rfl
@[simp] theorem ftyp_76_5 : ftyp Tryd.prog 76 5 = some 3 := by kernel_rfl
@[simp] theorem foff_76_6 : foff Tryd.prog 76 6 = some 10 := by kernel_rfl
@[simp] theorem ftyp_76_6 : ftyp Tryd.prog 76 6 = some 3 := by kernel_rfl
@[simp] theorem foff_76_7 : foff Tryd.prog 76 7 = some 11 := by kernel_rfl
@[simp] theorem ftyp_76_7 : ftyp Tryd.prog 76 7 = some 2 := by kernel_rfl
@[simp] theorem fplace_76 : fplace Tryd.prog 76 = some [(0, 5), (5, 1), (6, 1), (7, 1), (8, 1), (9, 1), (10, 1), (11, 1)] := by kernel_rfl
@[simp] theorem flat_76 : flatStruct Tryd.prog 76 = some [.int .i64, .int .i64, .int .i64, .int .i64, .int .i64, .int .i64, .int .i64, .int .i64, .int .i64, .int .i64, .int .i64, .int .i64] := by kernel_rfl
@[simp] theorem tk_79 : tk Tryd.prog 79 = .func := by kernel_rfl
@[simp] theorem tsz_79 : tsz Tryd.prog 79 = some 1 := by kernel_rfl
@[simp] theorem tk_81 : tk Tryd.prog 81 = .ptr 44 := by kernel_rfl
@[simp] theorem tsz_81 : tsz Tryd.prog 81 = some 1 := by kernel_rfl
@[simp] theorem tk_83 : tk Tryd.prog 83 = .slice 2 := by kernel_rfl
@[simp] theorem tsz_83 : tsz Tryd.prog 83 = some 1 := by kernel_rfl
@[simp] theorem tzero_83 : tzero Tryd.prog 83 = some ([.lit (.slice none 0 0)]) := by kernel_rfl
@[simp] theorem tbytes_83 : tbytes Tryd.prog 83 = some 24 := by kernel_rfl
@[simp] theorem tzeroD_83 : tzeroD Tryd.prog 83 = some (.list []) := by kernel_rfl
@[simp] theorem srcTy_83 : srcTy Tryd.prog 83 = true := by kernel_rfl
@[simp] theorem tk_87 : tk Tryd.prog 87 = .func := by kernel_rfl
@[simp] theorem tsz_87 : tsz Tryd.prog 87 = some 1 := by kernel_rfl
@[simp] theorem tk_94 : tk Tryd.prog 94 = .func := by kernel_rfl
@[simp] theorem tsz_94 : tsz Tryd.prog 94 = some 1 := by kernel_rfl
@[simp] theorem tk_95 : tk Tryd.prog 95 = .func := by kernel_rfl
@[simp] theorem tsz_95 : tsz Tryd.prog 95 = some 1 := by kernel_rfl
@[simp] theorem tk_97 : tk Tryd.prog 97 = .ptr 99 := by kernel_rfl
@[simp] theorem tsz_97 : tsz Tryd.prog 97 = some 1 := by kernel_rfl
@[simp] theorem tk_98 : tk Tryd.prog 98 = .struct := by kernel_rfl
@[simp] theorem tsz_98 : tsz Tryd.prog 98 = some 4 := by kernel_rfl
@[simp] theorem tzero_98 : tzero Tryd.prog 98 = some ([.d (.str []), .d (.int .i64 0), .d (.int .i64 0), .d (.int .i64 0)]) := by kernel_rfl
@[simp] theorem tbytes_98 : tbytes Tryd.prog 98 = some 40 := by kernel_rfl
@[simp] theorem tzeroD_98 : tzeroD Tryd.prog 98 = some (.agg ([.str [], .int .i64 0, .int .i64 0, .int .i64 0])) := by kernel_rfl
@[simp] theorem foff_98_0 : foff Tryd.prog 98 0 = some 0 := by kernel_rfl
@[simp] theorem ftyp_98_0 : ftyp Tryd.prog 98 0 = some 9 := by kernel_rfl
@[simp] theorem foff_98_1 : foff Tryd.prog 98 1 = some 1 := by kernel_rfl
@[simp] theorem ftyp_98_1 : ftyp Tryd.prog 98 1 = some 3 := by kernel_rfl
@[simp] theorem foff_98_2 : foff Tryd.prog 98 2 = some 2 := by kernel_rfl
@[simp] theorem ftyp_98_2 : ftyp Tryd.prog 98 2 = some 3 := by kernel_rfl
@[simp] theorem foff_98_3 : foff Tryd.prog 98 3 = some 3 := by kernel_rfl
@[simp] theorem ftyp_98_3 : ftyp Tryd.prog 98 3 = some 3 := by kernel_rfl
@[simp] theorem fplace_98 : fplace Tryd.prog 98 = some [(0, 1), (1, 1), (2, 1), (3, 1)] := by kernel_rfl
@[simp] theorem flat_98 : flatStruct Tryd.prog 98 = some [.str, .int .i64, .int .i64, .int .i64] := by kernel_rfl
@[simp] theorem tk_99 : tk Tryd.prog 99 = .struct := by kernel_rfl
@[simp] theorem tsz_99 : tsz Tryd.prog 99 = some 4 := by kernel_rfl
@[simp] theorem tzero_99 : tzero Tryd.prog 99 = some ([.d (.str []), .d (.int .i64 0), .d (.int .i64 0), .d (.int .i64 0)]) := by kernel_rfl
@[simp] theorem tbytes_99 : tbytes Tryd.prog 99 = some 40 := by kernel_rfl
@[simp] theorem tzeroD_99 : tzeroD Tryd.prog 99 = some (.agg ([.str [], .int .i64 0, .int .i64 0, .int .i64 0])) := by kernel_rfl
@[simp] theorem foff_99_0 : foff Tryd.prog 99 0 = some 0 := by kernel_rfl
@[simp] theorem ftyp_99_0 : ftyp Tryd.prog 99 0 = some 9 := by kernel_rfl
@[simp] theorem foff_99_1 : foff Tryd.prog 99 1 = some 1 := by kernel_rfl
@[simp] theorem ftyp_99_1 : ftyp Tryd.prog 99 1 = some 3 := by kernel_rfl
@[simp] theorem foff_99_2 : foff Tryd.prog 99 2 = some 2 := by kernel_rfl
@[simp] theorem ftyp_99_2 : ftyp Tryd.prog 99 2 = some 3 := by kernel_rfl
@[simp] theorem foff_99_3 : foff Tryd.prog 99 3 = some 3 := by kernel_rfl
@[simp] theorem ftyp_99_3 : ftyp Tryd.prog 99 3 = some 3 := by kernel_rfl
@[simp] theorem fplace_99 : fplace Tryd.prog 99 = some [(0, 1), (1, 1), (2, 1), (3, 1)] := by kernel_rfl
@[simp] theorem flat_99 : flatStruct Tryd.prog 99 = some [.str, .int .i64, .int .i64, .int .i64] := by kernel_rfl
@[simp] theorem tk_100 : tk Tryd.prog 100 = .func := by kernel_rfl
@[simp] theorem tsz_100 : tsz Tryd.prog 100 = some 1 := by kernel_rfl
@[simp] theorem tk_102 : tk Tryd.prog 102 = .func := by kernel_rfl
@[simp] theorem tsz_102 : tsz Tryd.prog 102 = some 1 := by kernel_rfl
@[simp] theorem tk_108 : tk Tryd.prog 108 = .slice 110 := by kernel_rfl
@[simp] theorem tsz_108 : tsz Tryd.prog 108 = some 1 := by kernel_rfl
@[simp] theorem tzero_108 : tzero Tryd.prog 108 = some ([.lit (.slice none 0 0)]) := by kernel_rfl
@[simp] theorem tbytes_108 : tbytes Tryd.prog 108 = some 24 := by kernel_rfl
@[simp] theorem tzeroD_108 : tzeroD Tryd.prog 108 = some (.list []) := by kernel_rfl
@[simp] theorem srcTy_108 : srcTy Tryd.prog 108 = true := by kernel_rfl
@[simp] theorem tk_109 : tk Tryd.prog 109 = .struct := by kernel_rfl
@[simp] theorem tsz_109 : tsz Tryd.prog 109 = some 2 := by kernel_rfl
@[simp] theorem tzero_109 : tzero Tryd.prog 109 = some ([.d (.int .i64 0), .d (.int .i64 0)]) := by kernel_rfl
@[simp] theorem tbytes_109 : tbytes Tryd.prog 109 = some 16 := by kernel_rfl
@[simp] theorem tzeroD_109 : tzeroD Tryd.prog 109 = some (.agg ([.int .i64 0, .int .i64 0])) := by kernel_rfl
@[simp] theorem foff_109_0 : foff Tryd.prog 109 0 = some 0 := by kernel_rfl
@[simp] theorem ftyp_109_0 : ftyp Tryd.prog 109 0 = some 3 := by kernel_rfl
@[simp] theorem foff_109_1 : foff Tryd.prog 109 1 = some 1 := by kernel_rfl
@[simp] theorem ftyp_109_1 : ftyp Tryd.prog 109 1 = some 3 := by kernel_rfl
@[simp] theorem fplace_109 : fplace Tryd.prog 109 = some [(0, 1), (1, 1)] := by kernel_rfl
@[simp] theorem flat_109 : flatStruct Tryd.prog 109 = some [.int .i64, .int .i64] := by kernel_rfl
@[simp] theorem tk_110 : tk Tryd.prog 110 = .struct := by kernel_rfl
@[simp] theorem tsz_110 : tsz Tryd.prog 110 = some 2 := by kernel_rfl
@[simp] theorem tzero_110 : tzero Tryd.prog 110 = some ([.d (.int .i64 0), .d (.int .i64 0)]) := by kernel_rfl
@[simp] theorem tbytes_110 : tbytes Tryd.prog 110 = some 16 := by kernel_rfl
@[simp] theorem tzeroD_110 : tzeroD Tryd.prog 110 = some (.agg ([.int .i64 0, .int .i64 0])) := by kernel_rfl
@[simp] theorem foff_110_0 : foff Tryd.prog 110 0 = some 0 := by kernel_rfl
@[simp] theorem ftyp_110_0 : ftyp Tryd.prog 110 0 = some 3 := by kernel_rfl
@[simp] theorem foff_110_1 : foff Tryd.prog 110 1 = some 1 := by kernel_rfl
@[simp] theorem ftyp_110_1 : ftyp Tryd.prog 110 1 = some 3 := by kernel_rfl
@[simp] theorem fplace_110 : fplace Tryd.prog 110 = some [(0, 1), (1, 1)] := by kernel_rfl
@[simp] theorem flat_110 : flatStruct Tryd.prog 110 = some [.int .i64, .int .i64] := by kernel_rfl
@[simp] theorem tk_114 : tk Tryd.prog 114 = .int .u64 := by kernel_rfl
@[simp] theorem tsz_114 : tsz Tryd.prog 114 = some 1 := by kernel_rfl
@[simp] theorem tzero_114 : tzero Tryd.prog 114 = some ([.d (.int .u64 0)]) := by kernel_rfl
@[simp] theorem tbytes_114 : tbytes Tryd.prog 114 = some 8 := by kernel_rfl
@[simp] theorem tzeroD_114 : tzeroD Tryd.prog 114 = some (.int .u64 0) := by kernel_rfl
@[simp] theorem tk_120 : tk Tryd.prog 120 = .func := by kernel_rfl
@[simp] theorem tsz_120 : tsz Tryd.prog 120 = some 1 := by kernel_rfl
@[simp] theorem tk_122 : tk Tryd.prog 122 = .struct := by kernel_rfl
@[simp] theorem tsz_122 : tsz Tryd.prog 122 = some 2 := by kernel_rfl
@[simp] theorem tzero_122 : tzero Tryd.prog 122 = some ([.d (.int .i64 0), .d (.int .i64 0)]) := by kernel_rfl
@[simp] theorem tbytes_122 : tbytes Tryd.prog 122 = some 16 := by kernel_rfl
@[simp] theorem tzeroD_122 : tzeroD Tryd.prog 122 = some (.agg ([.int .i64 0, .int .i64 0])) := by kernel_rfl
@[simp] theorem foff_122_0 : foff Tryd.prog 122 0 = some 0 := by kernel_rfl
@[simp] theorem ftyp_122_0 : ftyp Tryd.prog 122 0 = some 2 := by kernel_rfl
@[simp] theorem foff_122_1 : foff Tryd.prog 122 1 = some 1 := by kernel_rfl
@[simp] theorem ftyp_122_1 : ftyp Tryd.prog 122 1 = some 2 := by kernel_rfl
@[simp] theorem fplace_122 : fplace Tryd.prog 122 = some [(0, 1), (1, 1)] := by kernel_rfl
@[simp] theorem flat_122 : flatStruct Tryd.prog 122 = some [.int .i64, .int .i64] := by kernel_rfl
@[simp] theorem tk_123 : tk Tryd.prog 123 = .struct := by kernel_rfl
@[simp] theorem tsz_123 : tsz Tryd.prog 123 = some 2 := by kernel_rfl
@[simp] theorem tzero_123 : tzero Tryd.prog 123 = some ([.d (.int .i64 0), .d (.int .i64 0)]) := by kernel_rfl
@[simp] theorem tbytes_123 : tbytes Tryd.prog 123 = some 16 := by kernel_rfl
@[simp] theorem tzeroD_123 : tzeroD Tryd.prog 123 = some (.agg ([.int .i64 0, .int .i64 0])) := by kernel_rfl
@[simp] theorem foff_123_0 : foff Tryd.prog 123 0 = some 0 := by kernel_rfl
@[simp] theorem ftyp_123_0 : ftyp Tryd.prog 123 0 = some 2 := by kernel_rfl
@[simp] theorem foff_123_1 : foff Tryd.prog 123 1 = some 1 := by kernel_rfl
@[simp] theorem ftyp_123_1 : ftyp Tryd.prog 123 1 = some 2 := by kernel_rfl
@[simp] theorem fplace_123 : fplace Tryd.prog 123 = some [(0, 1), (1, 1)] := by kernel_rfl
@[simp] theorem flat_123 : flatStruct Tryd.prog 123 = some [.int .i64, .int .i64] := by kernel_rfl
@[simp] theorem tk_124 : tk Tryd.prog 124 = .struct := by kernel_rfl
@[simp] theorem tsz_124 : tsz Tryd.prog 124 = some 1 := by kernel_rfl
@[simp] theorem tzero_124 : tzero Tryd.prog 124 = some ([.lit (.slice none 0 0)]) := by kernel_rfl
@[simp] theorem tbytes_124 : tbytes Tryd.prog 124 = some 24 := by kernel_rfl
@[simp] theorem tzeroD_124 : tzeroD Tryd.prog 124 = some (.agg ([.list []])) := by kernel_rfl
@[simp] theorem foff_124_0 : foff Tryd.prog 124 0 = some 0 := by kernel_rfl
@[simp] theorem ftyp_124_0 : ftyp Tryd.prog 124 0 = some 83 := by kernel_rfl
@[simp] theorem fplace_124 : fplace Tryd.prog 124 = some [(0, 1)] := by kernel_rfl
@[simp] theorem tk_125 : tk Tryd.prog 125 = .struct := by kernel_rfl
@[simp] theorem tsz_125 : tsz Tryd.prog 125 = some 1 := by kernel_rfl
@[simp] theorem tzero_125 : tzero Tryd.prog 125 = some ([.lit (.slice none 0 0)]) := by kernel_rfl
@[simp] theorem tbytes_125 : tbytes Tryd.prog 125 = some 24 := by kernel_rfl
@[simp] theorem tzeroD_125 : tzeroD Tryd.prog 125 = some (.agg ([.list []])) := by kernel_rfl
@[simp] theorem foff_125_0 : foff Tryd.prog 125 0 = some 0 := by kernel_rfl
@[simp] theorem ftyp_125_0 : ftyp Tryd.prog 125 0 = some 83 := by kernel_rfl
@[simp] theorem fplace_125 : fplace Tryd.prog 125 = some [(0, 1)] := by kernel_rfl
@[simp] theorem tk_126 : tk Tryd.prog 126 = .slice 278 := by kernel_rfl
@[simp] theorem tsz_126 : tsz Tryd.prog 126 = some 1 := by kernel_rfl
@[simp] theorem tzero_126 : tzero Tryd.prog 126 = some ([.lit (.slice none 0 0)]) := by kernel_rfl
@[simp] theorem tbytes_126 : tbytes Tryd.prog 126 = some 24 := by kernel_rfl
@[simp] theorem tzeroD_126 : tzeroD Tryd.prog 126 = some (.list []) := by kernel_rfl
@[simp] theorem srcTy_126 : srcTy Tryd.prog 126 = true := by kernel_rfl
@[simp] theorem tk_127 : tk Tryd.prog 127 = .struct := by kernel_rfl
@[simp] theorem tsz_127 : tsz Tryd.prog 127 = some 2 := by kernel_rfl
@[simp] theorem tzero_127 : tzero Tryd.prog 127 = some ([.lit (.slice none 0 0), .lit (.slice none 0 0)]) := by kernel_rfl
@[simp] theorem tbytes_127 : tbytes Tryd.prog 127 = some 48 := by kernel_rfl
@[simp] theorem tzeroD_127 : tzeroD Tryd.prog 127 = some (.agg ([.list [], .list []])) := by kernel_rfl
@[simp] theorem foff_127_0 : foff Tryd.prog 127 0 = some 0 := by kernel_rfl
@[simp] theorem ftyp_127_0 : ftyp Tryd.prog 127 0 = some 126 := by kernel_rfl
@[simp] theorem foff_127_1 : foff Tryd.prog 127 1 = some 1 := by kernel_rfl
@[simp] theorem ftyp_127_1 : ftyp Tryd.prog 127 1 = some 126 := by kernel_rfl
@[simp] theorem fplace_127 : fplace Tryd.prog 127 = some [(0, 1), (1, 1)] := by kernel_rfl
@[simp] theorem tk_128 : tk Tryd.prog 128 = .struct := by kernel_rfl
@[simp] theorem tsz_128 : tsz Tryd.prog 128 = some 2 := by kernel_rfl
@[simp] theorem tzero_128 : tzero Tryd.prog 128 = some ([.lit (.slice none 0 0), .lit (.slice none 0 0)]) := by kernel_rfl
@[simp] theorem tbytes_128 : tbytes Tryd.prog 128 = some 48 := by kernel_rfl
@[simp] theorem tzeroD_128 : tzeroD Tryd.prog 128 = some (.agg ([.list [], .list []])) := by kernel_rfl
@[simp] theorem foff_128_0 : foff Tryd.prog 128 0 = some 0 := by kernel_rfl
@[simp] theorem ftyp_128_0 : ftyp Tryd.prog 128 0 = some 126 := by kernel_rfl
@[simp] theorem foff_128_1 : foff Tryd.prog 128 1 = some 1 := by kernel_rfl
@[simp] theorem ftyp_128_1 : ftyp Tryd.prog 128 1 = some 126 := by kernel_rfl
@[simp] theorem fplace_128 : fplace Tryd.prog 128 = some [(0, 1), (1, 1)] := by kernel_rfl
@[simp] theorem tk_129 : tk Tryd.prog 129 = .struct := by kernel_rfl
@[simp] theorem tsz_129 : tsz Tryd.prog 129 = some 4 := by kernel_rfl
@[simp] theorem tzero_129 : tzero Tryd.prog 129 = some ([.d (.int .i64 0), .d (.int .i64 0), .d (.int .i64 0), .d (.bool false)]) := by kernel_rfl
@[simp] theorem tbytes_129 : tbytes Tryd.prog 129 = some 32 := by kernel_rfl
@[simp] theorem tzeroD_129 : tzeroD Tryd.prog 129 = some (.agg ([.int .i64 0, .int .i64 0, .int .i64 0, .bool false])) := by kernel_rfl
@[simp] theorem foff_129_0 : foff Tryd.prog 129 0 = some 0 := by kernel_rfl
@[simp] theorem ftyp_129_0 : ftyp Tryd.prog 129 0 = some 3 := by kernel_rfl
@[simp] theorem foff_129_1 : foff Tryd.prog 129 1 = some 1 := by kernel_rfl
@[simp] theorem ftyp_129_1 : ftyp Tryd.prog 129 1 = some 2 := by kernel_rfl
@[simp] theorem foff_129_2 : foff Tryd.prog 129 2 = some 2 := by kernel_rfl
@[simp] theorem ftyp_129_2 : ftyp Tryd.prog 129 2 = some 2 := by kernel_rfl
@[simp] theorem foff_129_3 : foff Tryd.prog 129 3 = some 3 := by kernel_rfl
@[simp] theorem ftyp_129_3 : ftyp Tryd.prog 129 3 = some 4 := by kernel_rfl
@[simp] theorem fplace_129 : fplace Tryd.prog 129 = some [(0, 1), (1, 1), (2, 1), (3, 1)] := by kernel_rfl
@[simp] theorem flat_129 : flatStruct Tryd.prog 129 = some [.int .i64, .int .i64, .int .i64, .bool] := by kernel_rfl
@[simp] theorem tk_130 : tk Tryd.prog 130 = .struct := by kernel_rfl
@[simp] theorem tsz_130 : tsz Tryd.prog 130 = some 4 := by kernel_rfl
@[simp] theorem tzero_130 : tzero Tryd.prog 130 = some ([.d (.int .i64 0), .d (.int .i64 0), .d (.int .i64 0), .d (.bool false)]) := by kernel_rfl
@[simp] theorem tbytes_130 : tbytes Tryd.prog 130 = some 32 := by kernel_rfl
@[simp] theorem tzeroD_130 : tzeroD Tryd.prog 130 = some (.agg ([.int .i64 0, .int .i64 0, .int .i64 0, .bool false])) := by kernel_rfl
@[simp] theorem foff_130_0 : foff Tryd.prog 130 0 = some 0 := by kernel_rfl
@[simp] theorem ftyp_130_0 : ftyp Tryd.prog 130 0 = some 3 := by kernel_rfl
@[simp] theorem foff_130_1 : foff Tryd.prog 130 1 = some 1 := by kernel_rfl
@[simp] theorem ftyp_130_1 : ftyp Tryd.prog 130 1 = some 2 := by kernel_rfl
@[simp] theorem foff_130_2 : foff Tryd.prog 130 2 = some 2 := by kernel_rfl
@[simp] theorem ftyp_130_2 : ftyp Tryd.prog 130 2 = some 2 := by kernel_rfl
@[simp] theorem foff_130_3 : foff Tryd.prog 130 3 = some 3 := by kernel_rfl
@[simp] theorem ftyp_130_3 : ftyp Tryd.prog 130 3 = some 4 := by kernel_rfl
@[simp] theorem fplace_130 : fplace Tryd.prog 130 = some [(0, 1), (1, 1), (2, 1), (3, 1)] := by kernel_rfl
@[simp] theorem flat_130 : flatStruct Tryd.prog 130 = some [.int .i64, .int .i64, .int .i64, .bool] := by kernel_rfl
@[simp] theorem tk_131 : tk Tryd.prog 131 = .struct := by kernel_rfl
@[simp] theorem tsz_131 : tsz Tryd.prog 131 = some 26 := by kernel_rfl
@[simp] theorem tzero_131 : tzero Tryd.prog 131 = some ([.d (.int .i64 0), .d (.int .i64 0), .d (.int .i64 0), .d (.int .i64 0), .d (.int .i64 0), .d (.int .i64 0), .d (.int .i64 0), .d (.int .i64 0), .d (.int .i64 0), .d (.int .i64 0), .d (.int .i64 0), .d (.int .i64 0), .lit (.slice none 0 0), .d (.int .i64 0), .lit (.slice none 0 0), .lit (.slice none 0 0), .d (.bool false), .d (.int .i64 0), .d (.int .i64 0), .d (.int .i64 0), .d (.bool false), .d (.int .i64 0), .d (.int .i64 0), .d (.int .i64 0), .d (.int .i64 0), .d (.bool false)]) := by kernel_rfl
@[simp] theorem tbytes_131 : tbytes Tryd.prog 131 = some 256 := by kernel_rfl
@[simp] theorem tzeroD_131 : tzeroD Tryd.prog 131 = some (.agg ([.int .i64 0, .int .i64 0, .int .i64 0, .int .i64 0, .int .i64 0, .int .i64 0, .int .i64 0, .int .i64 0, .int .i64 0, .int .i64 0, .int .i64 0, .int .i64 0, .list [], .int .i64 0, .list [], .list [], .bool false, .int .i64 0, .int .i64 0, .int .i64 0, .bool false, .int .i64 0, .int .i64 0, .int .i64 0, .int .i64 0, .bool false])) := by kernel_rfl
@[simp] theorem foff_131_0 : foff Tryd.prog 131 0 = some 0 := by kernel_rfl
@[simp] theorem ftyp_131_0 : ftyp Tryd.prog 131 0 = some 3 := by kernel_rfl
@[simp] theorem foff_131_1 : foff Tryd.prog 131 1 = some 1 := by kernel_rfl
@[simp] theorem ftyp_131_1 : ftyp Tryd.prog 131 1 = some 74 := by kernel_rfl
@[simp] theorem foff_131_2 : foff Tryd.prog 131 2 = some 6 := by kernel_rfl
@[simp] theorem ftyp_131_2 : ftyp Tryd.prog 131 2 = some 3 := by kernel_rfl
@[simp] theorem foff_131_3 : foff Tryd.prog 131 3 = some 7 := by kernel_rfl
@[simp] theorem ftyp_131_3 : ftyp Tryd.prog 131 3 = some 2 := by kernel_rfl
@[simp] theorem foff_131_4 : foff Tryd.prog 131 4 = some 8 := by kernel_rfl
@[simp] theorem ftyp_131_4 : ftyp Tryd.prog 131 4 = some 2 := by kernel_rfl
@[simp] theorem foff_131_5 : foff Tryd.prog 131 5 = some 9 := by kernel_rfl
@[simp] theorem ftyp_131_5 : ftyp Tryd.prog 131 5 = some 2 := by kernel_rfl
@[simp] theorem foff_131_6 : foff Tryd.prog 131 6 = some 10 := by kernel_rfl
@[simp] theorem ftyp_131_6 : ftyp Tryd.prog 131 6 = some 123 := by kernel_rfl
@[simp] theorem foff_131_7 : foff Tryd.prog 131 7 = some 12 := by kernel_rfl
@[simp] theorem ftyp_131_7 : ftyp Tryd.prog 131 7 = some 125 := by kernel_rfl
@[simp] theorem foff_131_8 : foff Tryd.prog 131 8 = some 13 := by kernel_rfl
@[simp] theorem ftyp_131_8 : ftyp Tryd.prog 131 8 = some 2 := by kernel_rfl
@[simp] theorem foff_131_9 : foff Tryd.prog 131 9 = some 14 := by kernel_rfl
@[simp] theorem ftyp_131_9 : ftyp Tryd.prog 131 9 = some 128 := by kernel_rfl
@[simp] theorem foff_131_10 : foff Tryd.prog 131 10 = some 16 := by kernel_rfl
@[simp] theorem ftyp_131_10 : ftyp Tryd.prog 131 10 = some 4 := by kernel_rfl
@[simp] theorem foff_131_11 : foff Tryd.prog 131 11 = some 17 := by kernel_rfl
@[simp] theorem ftyp_131_11 : ftyp Tryd.prog 131 11 = some 130 := by kernel_rfl
@[simp] theorem foff_131_12 : foff Tryd.prog 131 12 = some 21 := by kernel_rfl
@[simp] theorem ftyp_131_12 : ftyp Tryd.prog 131 12 = some 3 := by kernel_rfl
@[simp] theorem foff_131_13 : foff Tryd.prog 131 13 = some 22 := by kernel_rfl
@[simp] theorem ftyp_131_13 : ftyp Tryd.prog 131 13 = some 2 := by kernel_rfl
@[simp] theorem foff_131_14 : foff Tryd.prog 131 14 = some 23 := by kernel_rfl
@[simp] theorem ftyp_131_14 : ftyp Tryd.prog 131 14 = some 2 := by kernel_rfl
@[simp] theorem foff_131_15 : foff Tryd.prog 131 15 = some 24 := by kernel_rfl
@[simp] theorem ftyp_131_15 : ftyp Tryd.prog 131 15 = some 3 := by kernel_rfl
@[simp] theorem foff_131_16 : foff Tryd.prog 131 16 = some 25 := by kernel_rfl
@[simp] theorem ftyp_131_16 : ftyp Tryd.prog 131 16 = some 4 := by kernel_rfl
@[simp] theorem fplace_131 : fplace Tryd.prog 131 = some [(0, 1), (1, 5), (6, 1), (7, 1), (8, 1), (9, 1), (10, 2), (12, 1), (13, 1), (14, 2), (16, 1), (17, 4), (21, 1), (22, 1), (23, 1), (24, 1), (25, 1)] := by kernel_rfl
@[simp] theorem tk_132 : tk Tryd.prog 132 = .struct := by kernel_rfl
@[simp] theorem tsz_132 : tsz Tryd.prog 132 = some 26 := by kernel_rfl
@[simp] theorem tzero_132 : tzero Tryd.prog 132 = some ([.d (.int .i64 0), .d (.int .i64 0), .d (.int .i64 0), .d (.int .i64 0), .d (.int .i64 0), .d (.int .i64 0), .d (.int .i64 0), .d (.int .i64 0), .d (.int .i64 0), .d (.int .i64 0), .d (.int .i64 0), .d (.int .i64 0), .lit (.slice none 0 0), .d (.int .i64 0), .lit (.slice none 0 0), .lit (.slice none 0 0), .d (.bool false), .d (.int .i64 0), .d (.int .i64 0), .d (.int .i64 0), .d (.bool false), .d (.int .i64 0), .d (.int .i64 0), .d (.int .i64 0), .d (.int .i64 0), .d (.bool false)]) := by kernel_rfl
@[simp] theorem tbytes_132 : tbytes Tryd.prog 132 = some 256 := by kernel_rfl
@[simp] theorem tzeroD_132 : tzeroD Tryd.prog 132 = some (.agg ([.int .i64 0, .int .i64 0, .int .i64 0, .int .i64 0, .int .i64 0, .int .i64 0, .int .i64 0, .int .i64 0, .int .i64 0, .int .i64 0, .int .i64 0, .int .i64 0, .list [], .int .i64 0, .list [], .list [], .bool false, .int .i64 0, .int .i64 0, .int .i64 0, .bool false, .int .i64 0, .int .i64 0, .int .i64 0, .int .i64 0, .bool false])) := by kernel_rfl
@[simp] theorem foff_132_0 : foff Tryd.prog 132 0 = some 0 := by kernel_rfl
@[simp] theorem ftyp_132_0 : ftyp Tryd.prog 132 0 = some 3 := by kernel_rfl
@[simp] theorem foff_132_1 : foff Tryd.prog 132 1 = some 1 := by kernel_rfl
@[simp] theorem ftyp_132_1 : ftyp Tryd.prog 132 1 = some 74 := by kernel_rfl
@[simp] theorem foff_132_2 : foff Tryd.prog 132 2 = some 6 := by kernel_rfl
@[simp] theorem ftyp_132_2 : ftyp Tryd.prog 132 2 = some 3 := by kernel_rfl
@[simp] theorem foff_132_3 : foff Tryd.prog 132 3 = some 7 := by kernel_rfl
@[simp] theorem ftyp_132_3 : ftyp Tryd.prog 132 3 = some 2 := by kernel_rfl
@[simp] theorem foff_132_4 : foff Tryd.prog 132 4 = some 8 := by kernel_rfl
@[simp] theorem ftyp_132_4 : ftyp Tryd.prog 132 4 = some 2 := by kernel_rfl
@[simp] theorem foff_132_5 : foff Tryd.prog 132 5 = some 9 := by kernel_rfl
@[simp] theorem ftyp_132_5 : ftyp Tryd.prog 132 5 = some 2 := by kernel_rfl
@[simp] theorem foff_132_6 : foff Tryd.prog 132 6 = some 10 := by kernel_rfl
@[simp] theorem ftyp_132_6 : ftyp Tryd.prog 132 6 = some 123 := by kernel_rfl
@[simp] theorem foff_132_7 : foff Tryd.prog 132 7 = some 12 := by kernel_rfl
@[simp] theorem ftyp_132_7 : ftyp Tryd.prog 132 7 = some 125 := by kernel_rfl
@[simp] theorem foff_132_8 : foff Tryd.prog 132 8 = some 13 := by kernel_rfl
@[simp] theorem ftyp_132_8 : ftyp Tryd.prog 132 8 = some 2 := by kernel_rfl
@[simp] theorem foff_132_9 : foff Tryd.prog 132 9 = some 14 := by kernel_rfl
@[simp] theorem ftyp_132_9 : ftyp Tryd.prog 132 9 = some 128 := by kernel_rfl
@[simp] theorem foff_132_10 : foff Tryd.prog 132 10 = some 16 := by kernel_rfl
@[simp] theorem ftyp_132_10 : ftyp Tryd.prog 132 10 = some 4 := by kernel_rfl
@[simp] theorem foff_132_11 : foff Tryd.prog 132 11 = some 17 := by kernel_rfl
@[simp] theorem ftyp_132_11 : ftyp Tryd.prog 132 11 = some 130 := by kernel_rfl
@[simp] theorem foff_132_12 : foff Tryd.prog 132 12 = some 21 := by kernel_rfl
@[simp] theorem ftyp_132_12 : ftyp Tryd.prog 132 12 = some 3 := by kernel_rfl
@[simp] theorem foff_132_13 : foff Tryd.prog 132 13 = some 22 := by kernel_rfl
@[simp] theorem ftyp_132_13 : ftyp Tryd.prog 132 13 = some 2 := by kernel_rfl
@[simp] theorem foff_132_14 : foff Tryd.prog 132 14 = some 23 := by kernel_rfl
@[simp] theorem ftyp_132_14 : ftyp Tryd.prog 132 14 = some 2 := by kernel_rfl
@[simp] theorem foff_132_15 : foff Tryd.prog 132 15 = some 24 := by kernel_rfl
@[simp] theorem ftyp_132_15 : ftyp Tryd.prog 132 15 = some 3 := by kernel_rfl
@[simp] theorem foff_132_16 : foff Tryd.prog 132 16 = some 25 := by kernel_rfl
@[simp] theorem ftyp_132_16 : ftyp Tryd.prog 132 16 = some 4 := by kernel_rfl
@[simp] theorem fplace_132 : fplace Tryd.prog 132 = some [(0, 1), (1, 5), (6, 1), (7, 1), (8, 1), (9, 1), (10, 2), (12, 1), (13, 1), (14, 2), (16, 1), (17, 4), (21, 1), (22, 1), (23, 1), (24, 1), (25, 1)] := by kernel_rfl
@[simp] theorem tk_135 : tk Tryd.prog 135 = .struct := by kernel_rfl
@[simp] theorem tsz_135 : tsz Tryd.prog 135 = some 3 := by kernel_rfl
@[simp] theorem tzero_135 : tzero Tryd.prog 135 = some ([.d (.int .i64 0), .d (.int .i64 0), .d (.int .i64 0)]) := by kernel_rfl
@[simp] theorem tbytes_135 : tbytes Tryd.prog 135 = some 24 := by kernel_rfl
@[simp] theorem tzeroD_135 : tzeroD Tryd.prog 135 = some (.agg ([.int .i64 0, .int .i64 0, .int .i64 0])) := by kernel_rfl
@[simp] theorem foff_135_0 : foff Tryd.prog 135 0 = some 0 := by kernel_rfl
@[simp] theorem ftyp_135_0 : ftyp Tryd.prog 135 0 = some 3 := by kernel_rfl
@[simp] theorem foff_135_1 : foff Tryd.prog 135 1 = some 1 := by kernel_rfl
@[simp] theorem ftyp_135_1 : ftyp Tryd.prog 135 1 = some 3 := by kernel_rfl
@[simp] theorem foff_135_2 : foff Tryd.prog 135 2 = some 2 := by kernel_rfl
@[simp] theorem ftyp_135_2 : ftyp Tryd.prog 135 2 = some 3 := by kernel_rfl
@[simp] theorem fplace_135 : fplace Tryd.prog 135 = some [(0, 1), (1, 1), (2, 1)] := by kernel_rfl
@[simp] theorem flat_135 : flatStruct Tryd.prog 135 = some [.int .i64, .int .i64, .int .i64] := by kernel_rfl
@[simp] theorem tk_136 : tk Tryd.prog 136 = .struct := by kernel_rfl
@[simp] theorem tsz_136 : tsz Tryd.prog 136 = some 3 := by kernel_rfl
@[simp] theorem tzero_136 : tzero Tryd.prog 136 = some ([.d (.int .i64 0), .d (.int .i64 0), .d (.int .i64 0)]) := by kernel_rfl
@[simp] theorem tbytes_136 : tbytes Tryd.prog 136 = some 24 := by kernel_rfl
@[simp] theorem tzeroD_136 : tzeroD Tryd.prog 136 = some (.agg ([.int .i64 0, .int .i64 0, .int .i64 0])) := by kernel_rfl
@[simp] theorem foff_136_0 : foff Tryd.prog 136 0 = some 0 := by kernel_rfl
@[simp] theorem ftyp_136_0 : ftyp Tryd.prog 136 0 = some 3 := by kernel_rfl
@[simp] theorem foff_136_1 : foff Tryd.prog 136 1 = some 1 := by kernel_rfl
@[simp] theorem ftyp_136_1 : ftyp Tryd.prog 136 1 = some 3 := by kernel_rfl
@[simp] theorem foff_136_2 : foff Tryd.prog 136 2 = some 2 := by kernel_rfl
@[simp] theorem ftyp_136_2 : ftyp Tryd.prog 136 2 = some 3 := by kernel_rfl
@[simp] theorem fplace_136 : fplace Tryd.prog 136 = some [(0, 1), (1, 1), (2, 1)] := by kernel_rfl
@[simp] theorem flat_136 : flatStruct Tryd.prog 136 = some [.int .i64, .int .i64, .int .i64] := by kernel_rfl
@[simp] theorem tk_137 : tk Tryd.prog 137 = .struct := by kernel_rfl
@[simp] theorem tsz_137 : tsz Tryd.prog 137 = some 3 := by kernel_rfl
@[simp] theorem tzero_137 : tzero Tryd.prog 137 = some ([.d (.int .i64 0), .d (.bool false), .d (.int .i64 0)]) := by kernel_rfl
@[simp] theorem tbytes_137 : tbytes Tryd.prog 137 = some 24 := by kernel_rfl
@[simp] theorem tzeroD_137 : tzeroD Tryd.prog 137 = some (.agg ([.int .i64 0, .bool false, .int .i64 0])) := by kernel_rfl
@[simp] theorem foff_137_0 : foff Tryd.prog 137 0 = some 0 := by kernel_rfl
@[simp] theorem ftyp_137_0 : ftyp Tryd.prog 137 0 = some 3 := by kernel_rfl
@[simp] theorem foff_137_1 : foff Tryd.prog 137 1 = some 1 := by kernel_rfl
@[simp] theorem ftyp_137_1 : ftyp Tryd.prog 137 1 = some 4 := by kernel_rfl
@[simp] theorem foff_137_2 : foff Tryd.prog 137 2 = some 2 := by kernel_rfl
@[simp] theorem ftyp_137_2 : ftyp Tryd.prog 137 2 = some 3 := by kernel_rfl
@[simp] theorem fplace_137 : fplace Tryd.prog 137 = some [(0, 1), (1, 1), (2, 1)] := by kernel_rfl
@[simp] theorem flat_137 : flatStruct Tryd.prog 137 = some [.int .i64, .bool, .int .i64] := by kernel_rfl
@[simp] theorem tk_138 : tk Tryd.prog 138 = .struct := by kernel_rfl
@[simp] theorem tsz_138 : tsz Tryd.prog 138 = some 3 := by kernel_rfl
@[simp] theorem tzero_138 : tzero Tryd.prog 138 = some ([.d (.int .i64 0), .d (.bool false), .d (.int .i64 0)]) := by kernel_rfl
@[simp] theorem tbytes_138 : tbytes Tryd.prog 138 = some 24 := by kernel_rfl
@[simp] theorem tzeroD_138 : tzeroD Tryd.prog 138 = some (.agg ([.int .i64 0, .bool false, .int .i64 0])) := by kernel_rfl
@[simp] theorem foff_138_0 : foff Tryd.prog 138 0 = some 0 := by kernel_rfl
@[simp] theorem ftyp_138_0 : ftyp Tryd.prog 138 0 = some 3 := by kernel_rfl
@[simp] theorem foff_138_1 : foff Tryd.prog 138 1 = some 1 := by kernel_rfl
@[simp] theorem ftyp_138_1 : ftyp Tryd.prog 138 1 = some 4 := by kernel_rfl
@[simp] theorem foff_138_2 : foff Tryd.prog 138 2 = some 2 := by kernel_rfl
@[simp] theorem ftyp_138_2 : ftyp Tryd.prog 138 2 = some 3 := by kernel_rfl
@[simp] theorem fplace_138 : fplace Tryd.prog 138 = some [(0, 1), (1, 1), (2, 1)] := by kernel_rfl
@[simp] theorem flat_138 : flatStruct Tryd.prog 138 = some [.int .i64, .bool, .int .i64] := by kernel_rfl
@[simp] theorem tk_139 : tk Tryd.prog 139 = .struct := by kernel_rfl
@[simp] theorem tsz_139 : tsz Tryd.prog 139 = some 16 := by kernel_rfl
@[simp] theorem tzero_139 : tzero Tryd.prog 139 = some ([.d (.int .i64 0), .d (.int .i64 0), .d (.int .i64 0), .d (.int .i64 0), .d (.int .i64 0), .d (.bool false), .d (.int .i64 0), .d (.int .i64 0), .d (.bool false), .d (.int .i64 0), .d (.int .i64 0), .d (.bool false), .d (.int .i64 0), .d (.int .i64 0), .d (.bool false), .d (.int .i64 0)]) := by kernel_rfl
@[simp] theorem tbytes_139 : tbytes Tryd.prog 139 = some 128 := by kernel_rfl
@[simp] theorem tzeroD_139 : tzeroD Tryd.prog 139 = some (.agg ([.int .i64 0, .int .i64 0, .int .i64 0, .int .i64 0, .int .i64 0, .bool false, .int .i64 0, .int .i64 0, .bool false, .int .i64 0, .int .i64 0, .bool false, .int .i64 0, .int .i64 0, .bool false, .int .i64 0])) := by kernel_rfl
@[simp] theorem foff_139_0 : foff Tryd.prog 139 0 = some 0 := by kernel_rfl
@[simp] theorem ftyp_139_0 : ftyp Tryd.prog 139 0 = some 3 := by kernel_rfl
@[simp] theorem foff_139_1 : foff Tryd.prog 139 1 = some 1 := by kernel_rfl
@[simp] theorem ftyp_139_1 : ftyp Tryd.prog 139 1 = some 136 := by kernel_rfl
@[simp] theorem foff_139_2 : foff Tryd.prog 139 2 = some 4 := by kernel_rfl
@[simp] theorem ftyp_139_2 : ftyp Tryd.prog 139 2 = some 138 := by kernel_rfl
@[simp] theorem foff_139_3 : foff Tryd.prog 139 3 = some 7 := by kernel_rfl
@[simp] theorem ftyp_139_3 : ftyp Tryd.prog 139 3 = some 138 := by kernel_rfl
@[simp] theorem foff_139_4 : foff Tryd.prog 139 4 = some 10 := by kernel_rfl
@[simp] theorem ftyp_139_4 : ftyp Tryd.prog 139 4 = some 138 := by kernel_rfl
@[simp] theorem foff_139_5 : foff Tryd.prog 139 5 = some 13 := by kernel_rfl
@[simp] theorem ftyp_139_5 : ftyp Tryd.prog 139 5 = some 2 := by kernel_rfl
@[simp] theorem foff_139_6 : foff Tryd.prog 139 6 = some 14 := by kernel_rfl
@[simp] theorem ftyp_139_6 : ftyp Tryd.prog 139 6 = some 4 := by kernel_rfl
@[simp] theorem foff_139_7 : foff Tryd.prog 139 7 = some 15 := by kernel_rfl
@[simp] theorem ftyp_139_7 : ftyp Tryd.prog 139 7 = some 3 := by kernel_rfl
@[simp] theorem fplace_139 : fplace Tryd.prog 139 = some [(0, 1), (1, 3), (4, 3), (7, 3), (10, 3), (13, 1), (14, 1), (15, 1)] := by kernel_rfl
@[simp] theorem flat_139 : flatStruct Tryd.prog 139 = some [.int .i64, .int .i64, .int .i64, .int .i64, .int .i64, .bool, .int .i64, .int .i64, .bool, .int .i64, .int .i64, .bool, .int .i64, .int .i64, .bool, .int .i64] := by kernel_rfl
@[simp] theorem tk_140 : tk Tryd.prog 140 = .struct := by kernel_rfl
@[simp] theorem tsz_140 : tsz Tryd.prog 140 = some 16 := by kernel_rfl
@[simp] theorem tzero_140 : tzero Tryd.prog 140 = some ([.d (.int .i64 0), .d (.int .i64 0), .d (.int .i64 0), .d (.int .i64 0), .d (.int .i64 0), .d (.bool false), .d (.int .i64 0), .d (.int .i64 0), .d (.bool false), .d (.int .i64 0), .d (.int .i64 0), .d (.bool false), .d (.int .i64 0), .d (.int .i64 0), .d (.bool false), .d (.int .i64 0)]) := by kernel_rfl
@[simp] theorem tbytes_140 : tbytes Tryd.prog 140 = some 128 := by kernel_rfl
@[simp] theorem tzeroD_140 : tzeroD Tryd.prog 140 = some (.agg ([.int .i64 0, .int .i64 0, .int .i64 0, .int .i64 0, .int .i64 0, .bool false, .int .i64 0, .int .i64 0, .bool false, .int .i64 0, .int .i64 0, .bool false, .int .i64 0, .int .i64 0, .bool false, .int .i64 0])) := by kernel_rfl
@[simp] theorem foff_140_0 : foff Tryd.prog 140 0 = some 0 := by kernel_rfl
@[simp] theorem ftyp_140_0 : ftyp Tryd.prog 140 0 = some 3 := by kernel_rfl
@[simp] theorem foff_140_1 : foff Tryd.prog 140 1 = some 1 := by kernel_rfl
@[simp] theorem ftyp_140_1 : ftyp Tryd.prog 140 1 = some 136 := by kernel_rfl
@[simp] theorem foff_140_2 : foff Tryd.prog 140 2 = some 4 := by kernel_rfl
@[simp] theorem ftyp_140_2 : ftyp Tryd.prog 140 2 = some 138 := by kernel_rfl
@[simp] theorem foff_140_3 : foff Tryd.prog 140 3 = some 7 := by kernel_rfl
@[simp] theorem ftyp_140_3 : ftyp Tryd.prog 140 3 = some 138 := by kernel_rfl
@[simp] theorem foff_140_4 : foff Tryd.prog 140 4 = some 10 := by kernel_rfl
@[simp] theorem ftyp_140_4 : ftyp Tryd.prog 140 4 = some 138 := by kernel_rfl
@[simp] theorem foff_140_5 : foff Tryd.prog 140 5 = some 13 := by kernel_rfl
@[simp] theorem ftyp_140_5 : ftyp Tryd.prog 140 5 = some 2 := by kernel_rfl
@[simp] theorem foff_140_6 : foff Tryd.prog 140 6 = some 14 := by kernel_rfl
@[simp] theorem ftyp_140_6 : ftyp Tryd.prog 140 6 = some 4 := by kernel_rfl
@[simp] theorem foff_140_7 : foff Tryd.prog 140 7 = some 15 := by kernel_rfl
@[simp] theorem ftyp_140_7 : ftyp Tryd.prog 140 7 = some 3 := by kernel_rfl
@[simp] theorem fplace_140 : fplace Tryd.prog 140 = some [(0, 1), (1, 3), (4, 3), (7, 3), (10, 3), (13, 1), (14, 1), (15, 1)] := by kernel_rfl
@[simp] theorem flat_140 : flatStruct Tryd.prog 140 = some [.int .i64, .int .i64, .int .i64, .int .i64, .int .i64, .bool, .int .i64, .int .i64, .bool, .int .i64, .int .i64, .bool, .int .i64, .int .i64, .bool, .int .i64] := by kernel_rfl
@[simp] theorem tk_162 : tk Tryd.prog 162 = .arr 24 5 := by kernel_rfl
@[simp] theorem tsz_162 : tsz Tryd.prog 162 = some 24 := by kernel_rfl
@[simp] theorem tzero_162 : tzero Tryd.prog 162 = some ([.d (.int .u8 0), .d (.int .u8 0), .d (.int .u8 0), .d (.int .u8 0), .d (.int .u8 0), .d (.int .u8 0), .d (.int .u8 0), .d (.int .u8 0), .d (.int .u8 0), .d (.int .u8 0), .d (.int .u8 0), .d (.int .u8 0), .d (.int .u8 0), .d (.int .u8 0), .d (.int .u8 0), .d (.int .u8 0), .d (.int .u8 0), .d (.int .u8 0), .d (.int .u8 0), .d (.int .u8 0), .d (.int .u8 0), .d (.int .u8 0), .d (.int .u8 0), .d (.int .u8 0)]) := by kernel_rfl
@[simp] theorem tbytes_162 : tbytes Tryd.prog 162 = some 24 := by kernel_rfl
@[simp] theorem tzeroD_162 : tzeroD Tryd.prog 162 = some (.agg ([.int .u8 0, .int .u8 0, .int .u8 0, .int .u8 0, .int .u8 0, .int .u8 0, .int .u8 0, .int .u8 0, .int .u8 0, .int .u8 0, .int .u8 0, .int .u8 0, .int .u8 0, .int .u8 0, .int .u8 0, .int .u8 0, .int .u8 0, .int .u8 0, .int .u8 0, .int .u8 0, .int .u8 0, .int .u8 0, .int .u8 0, .int .u8 0])) := by kernel_rfl
@[simp] theorem fplace_162 : fplace Tryd.prog 162 = none := by kernel_rfl
@[simp] theorem tk_186 : tk Tryd.prog 186 = .iface := by kernel_rfl
@[simp] theorem tsz_186 : tsz Tryd.prog 186 = some 1 := by kernel_rfl
@[simp] theorem tk_187 : tk Tryd.prog 187 = .iface := by kernel_rfl
@[simp] theorem tsz_187 : tsz Tryd.prog 187 = some 1 := by kernel_rfl
@[simp] theorem tk_191 : tk Tryd.prog 191 = .func := by kernel_rfl
@[simp] theorem tsz_191 : tsz Tryd.prog 191 = some 1 := by kernel_rfl
@[simp] theorem tk_192 : tk Tryd.prog 192 = .arr 20 114 := by kernel_rfl
@[simp] theorem tsz_192 : tsz Tryd.prog 192 = some 20 := by kernel_rfl
@[simp] theorem tzero_192 : tzero Tryd.prog 192 = some ([.d (.int .u64 0), .d (.int .u64 0), .d (.int .u64 0), .d (.int .u64 0), .d (.int .u64 0), .d (.int .u64 0), .d (.int .u64 0), .d (.int .u64 0), .d (.int .u64 0), .d (.int .u64 0), .d (.int .u64 0), .d (.int .u64 0), .d (.int .u64 0), .d (.int .u64 0), .d (.int .u64 0), .d (.int .u64 0), .d (.int .u64 0), .d (.int .u64 0), .d (.int .u64 0), .d (.int .u64 0)]) := by kernel_rfl
@[simp] theorem tbytes_192 : tbytes Tryd.prog 192 = some 160 := by kernel_rfl
@[simp] theorem tzeroD_192 : tzeroD Tryd.prog 192 = some (.agg ([.int .u64 0, .int .u64 0, .int .u64 0, .int .u64 0, .int .u64 0, .int .u64 0, .int .u64 0, .int .u64 0, .int .u64 0, .int .u64 0, .int .u64 0, .int .u64 0, .int .u64 0, .int .u64 0, .int .u64 0, .int .u64 0, .int .u64 0, .int .u64 0, .int .u64 0, .int .u64 0])) := by kernel_rfl
@[simp] theorem fplace_192 : fplace Tryd.prog 192 = none := by kernel_rfl
@[simp] theorem tk_193 : tk Tryd.prog 193 = .int .u32 := by kernel_rfl
@[simp] theorem tsz_193 : tsz Tryd.prog 193 = some 1 := by kernel_rfl
@[simp] theorem tzero_193 : tzero Tryd.prog 193 = some ([.d (.int .u32 0)]) := by kernel_rfl
@[simp] theorem tbytes_193 : tbytes Tryd.prog 193 = some 4 := by kernel_rfl
@[simp] theorem tzeroD_193 : tzeroD Tryd.prog 193 = some (.int .u32 0) := by kernel_rfl
@[simp] theorem tk_194 : tk Tryd.prog 194 = .arr 65 5 := by kernel_rfl
@[simp] theorem tsz_194 : tsz Tryd.prog 194 = some 65 := by kernel_rfl
@[simp] theorem tzero_194 : tzero Tryd.prog 194 = some (List.replicate 65 (.d (.int .u8 0))) := by kernel_rfl
@[simp] theorem tbytes_194 : tbytes Tryd.prog 194 = some 65 := by kernel_rfl
@[simp] theorem tzeroD_194 : tzeroD Tryd.prog 194 = some (.agg (List.replicate 65 (.int .u8 0))) := by kernel_rfl
@[simp] theorem fplace_194 : fplace Tryd.prog 194 = none := by kernel_rfl
@[simp] theorem tk_196 : tk Tryd.prog 196 = .int .u64 := by kernel_rfl
@[simp] theorem tsz_196 : tsz Tryd.prog 196 = some 1 := by kernel_rfl
@[simp] theorem tzero_196 : tzero Tryd.prog 196 = some ([.d (.int .u64 0)]) := by kernel_rfl
@[simp] theorem tbytes_196 : tbytes Tryd.prog 196 = some 8 := by kernel_rfl
@[simp] theorem tzeroD_196 : tzeroD Tryd.prog 196 = some (.int .u64 0) := by kernel_rfl
@[simp] theorem tk_203 : tk Tryd.prog 203 = .arr 256 5 := by kernel_rfl
@[simp] theorem tsz_203 : tsz Tryd.prog 203 = some 256 := by kernel_rfl
@[simp] theorem tzero_203 : tzero Tryd.prog 203 = some (List.replicate 256 (.d (.int .u8 0))) := by kernel_rfl
@[simp] theorem tbytes_203 : tbytes Tryd.prog 203 = some 256 := by kernel_rfl
@[simp] theorem tzeroD_203 : tzeroD Tryd.prog 203 = some (.agg (List.replicate 256 (.int .u8 0))) := by kernel_rfl
@[simp] theorem fplace_203 : fplace Tryd.prog 203 = none := by kernel_rfl
@[simp] theorem tk_226 : tk Tryd.prog 226 = .struct := by kernel_rfl
@[simp] theorem tsz_226 : tsz Tryd.prog 226 = some 2 := by kernel_rfl
@[simp] theorem tzero_226 : tzero Tryd.prog 226 = some ([.d (.int .u8 0), .d (.int .u8 0)]) := by kernel_rfl
@[simp] theorem tbytes_226 : tbytes Tryd.prog 226 = some 2 := by kernel_rfl
@[simp] theorem tzeroD_226 : tzeroD Tryd.prog 226 = some (.agg ([.int .u8 0, .int .u8 0])) := by kernel_rfl
@[simp] theorem foff_226_0 : foff Tryd.prog 226 0 = some 0 := by kernel_rfl
@[simp] theorem ftyp_226_0 : ftyp Tryd.prog 226 0 = some 5 := by kernel_rfl
@[simp] theorem foff_226_1 : foff Tryd.prog 226 1 = some 1 := by kernel_rfl
@[simp] theorem ftyp_226_1 : ftyp Tryd.prog 226 1 = some 5 := by kernel_rfl
@[simp] theorem fplace_226 : fplace Tryd.prog 226 = some [(0, 1), (1, 1)] := by kernel_rfl
@[simp] theorem flat_226 : flatStruct Tryd.prog 226 = some [.int .u8, .int .u8] := by kernel_rfl
@[simp] theorem tk_227 : tk Tryd.prog 227 = .struct := by kernel_rfl
@[simp] theorem tsz_227 : tsz Tryd.prog 227 = some 2 := by kernel_rfl
@[simp] theorem tzero_227 : tzero Tryd.prog 227 = some ([.d (.int .u8 0), .d (.int .u8 0)]) := by kernel_rfl
@[simp] theorem tbytes_227 : tbytes Tryd.prog 227 = some 2 := by kernel_rfl
@[simp] theorem tzeroD_227 : tzeroD Tryd.prog 227 = some (.agg ([.int .u8 0, .int .u8 0])) := by kernel_rfl
@[simp] theorem foff_227_0 : foff Tryd.prog 227 0 = some 0 := by kernel_rfl
@[simp] theorem ftyp_227_0 : ftyp Tryd.prog 227 0 = some 5 := by kernel_rfl
@[simp] theorem foff_227_1 : foff Tryd.prog 227 1 = some 1 := by kernel_rfl
@[simp] theorem ftyp_227_1 : ftyp Tryd.prog 227 1 = some 5 := by kernel_rfl
@[simp] theorem fplace_227 : fplace Tryd.prog 227 = some [(0, 1), (1, 1)] := by kernel_rfl
@[simp] theorem flat_227 : flatStruct Tryd.prog 227 = some [.int .u8, .int .u8] := by kernel_rfl
@[simp] theorem tk_228 : tk Tryd.prog 228 = .arr 16 227 := by kernel_rfl
@[simp] theorem tsz_228 : tsz Tryd.prog 228 = some 32 := by kernel_rfl
@[simp] theorem tzero_228 : tzero Tryd.prog 228 = some ([.d (.int .u8 0), .d (.int .u8 0), .d (.int .u8 0), .d (.int .u8 0), .d (.int .u8 0), .d (.int .u8 0), .d (.int .u8 0), .d (.int .u8 0), .d (.int .u8 0), .d (.int .u8 0), .d (.int .u8 0), .d (.int .u8 0), .d (.int .u8 0), .d (.int .u8 0), .d (.int .u8 0), .d (.int .u8 0), .d (.int .u8 0), .d (.int .u8 0), .d (.int .u8 0), .d (.int .u8 0), .d (.int .u8 0), .d (.int .u8 0), .d (.int .u8 0), .d (.int .u8 0), .d (.int .u8 0), .d (.int .u8 0), .d (.int .u8 0), .d (.int .u8 0), .d (.int .u8 0), .d (.int .u8 0), .d (.int .u8 0), .d (.int .u8 0)]) := by kernel_rfl
@[simp] theorem tbytes_228 : tbytes Tryd.prog 228 = some 32 := by kernel_rfl
@[simp] theorem tzeroD_228 : tzeroD Tryd.prog 228 = some (.agg ([.int .u8 0, .int .u8 0, .int .u8 0, .int .u8 0, .int .u8 0, .int .u8 0, .int .u8 0, .int .u8 0, .int .u8 0, .int .u8 0, .int .u8 0, .int .u8 0, .int .u8 0, .int .u8 0, .int .u8 0, .int .u8 0, .int .u8 0, .int .u8 0, .int .u8 0, .int .u8 0, .int .u8 0, .int .u8 0, .int .u8 0, .int .u8 0, .int .u8 0, .int .u8 0, .int .u8 0, .int .u8 0, .int .u8 0, .int .u8 0, .int .u8 0, .int .u8 0])) := by kernel_rfl
@[simp] theorem fplace_228 : fplace Tryd.prog 228 = none := by kernel_rfl
@[simp] theorem tk_229 : tk Tryd.prog 229 = .int .i64 := by kernel_rfl
@[simp] theorem tsz_229 : tsz Tryd.prog 229 = some 1 := by kernel_rfl
@[simp] theorem tzero_229 : tzero Tryd.prog 229 = some ([.d (.int .i64 0)]) := by kernel_rfl
@[simp] theorem tbytes_229 : tbytes Tryd.prog 229 = some 8 := by kernel_rfl
@[simp] theorem tzeroD_229 : tzeroD Tryd.prog 229 = some (.int .i64 0) := by kernel_rfl
@[simp] theorem tk_232 : tk Tryd.prog 232 = .ptr 256 := by kernel_rfl
@[simp] theorem tsz_232 : tsz Tryd.prog 232 = some 1 := by kernel_rfl
@[simp] theorem tk_235 : tk Tryd.prog 235 = .arr 32 5 := by kernel_rfl
@[simp] theorem tsz_235 : tsz Tryd.prog 235 = some 32 := by kernel_rfl
@[simp] theorem tzero_235 : tzero Tryd.prog 235 = some ([.d (.int .u8 0), .d (.int .u8 0), .d (.int .u8 0), .d (.int .u8 0), .d (.int .u8 0), .d (.int .u8 0), .d (.int .u8 0), .d (.int .u8 0), .d (.int .u8 0), .d (.int .u8 0), .d (.int .u8 0), .d (.int .u8 0), .d (.int .u8 0), .d (.int .u8 0), .d (.int .u8 0), .d (.int .u8 0), .d (.int .u8 0), .d (.int .u8 0), .d (.int .u8 0), .d (.int .u8 0), .d (.int .u8 0), .d (.int .u8 0), .d (.int .u8 0), .d (.int .u8 0), .d (.int .u8 0), .d (.int .u8 0), .d (.int .u8 0), .d (.int .u8 0), .d (.int .u8 0), .d (.int .u8 0), .d (.int .u8 0), .d (.int .u8 0)]) := by kernel_rfl
@[simp] theorem tbytes_235 : tbytes Tryd.prog 235 = some 32 := by kernel_rfl
@[simp] theorem tzeroD_235 : tzeroD Tryd.prog 235 = some (.agg ([.int .u8 0, .int .u8 0, .int .u8 0, .int .u8 0, .int .u8 0, .int .u8 0, .int .u8 0, .int .u8 0, .int .u8 0, .int .u8 0, .int .u8 0, .int .u8 0, .int .u8 0, .int .u8 0, .int .u8 0, .int .u8 0, .int .u8 0, .int .u8 0, .int .u8 0, .int .u8 0, .int .u8 0, .int .u8 0, .int .u8 0, .int .u8 0, .int .u8 0, .int .u8 0, .int .u8 0, .int .u8 0, .int .u8 0, .int .u8 0, .int .u8 0, .int .u8 0])) := by kernel_rfl
@[simp] theorem fplace_235 : fplace Tryd.prog 235 = none := by kernel_rfl
@[simp] theorem tk_236 : tk Tryd.prog 236 = .arr 64 5 := by kernel_rfl
@[simp] theorem tsz_236 : tsz Tryd.prog 236 = some 64 := by kernel_rfl
@[simp] theorem tzero_236 : tzero Tryd.prog 236 = some (List.replicate 64 (.d (.int .u8 0))) := by kernel_rfl
@[simp] theorem tbytes_236 : tbytes Tryd.prog 236 = some 64 := by kernel_rfl
@[simp] theorem tzeroD_236 : tzeroD Tryd.prog 236 = some (.agg (List.replicate 64 (.int .u8 0))) := by kernel_rfl
@[simp] theorem fplace_236 : fplace Tryd.prog 236 = none := by kernel_rfl
@[simp] theorem tk_240 : tk Tryd.prog 240 = .slice 246 := by kernel_rfl
@[simp] theorem tsz_240 : tsz Tryd.prog 240 = some 1 := by kernel_rfl
@[simp] theorem tzero_240 : tzero Tryd.prog 240 = some ([.lit (.slice none 0 0)]) := by kernel_rfl
@[simp] theorem tbytes_240 : tbytes Tryd.prog 240 = some 24 := by kernel_rfl
@[simp] theorem tzeroD_240 : tzeroD Tryd.prog 240 = some (.list []) := by kernel_rfl
@[simp] theorem srcTy_240 : srcTy Tryd.prog 240 = true := by kernel_rfl
@[simp] theorem tk_244 : tk Tryd.prog 244 = .int .u16 := by kernel_rfl
@[simp] theorem tsz_244 : tsz Tryd.prog 244 = some 1 := by kernel_rfl
@[simp] theorem tzero_244 : tzero Tryd.prog 244 = some ([.d (.int .u16 0)]) := by kernel_rfl
@[simp] theorem tbytes_244 : tbytes Tryd.prog 244 = some 2 := by kernel_rfl
@[simp] theorem tzeroD_244 : tzeroD Tryd.prog 244 = some (.int .u16 0) := by kernel_rfl
@[simp] theorem tk_245 : tk Tryd.prog 245 = .struct := by kernel_rfl
@[simp] theorem tsz_245 : tsz Tryd.prog 245 = some 3 := by kernel_rfl
@[simp] theorem tzero_245 : tzero Tryd.prog 245 = some ([.d (.int .u16 0), .d (.int .u16 0), .d (.int .u16 0)]) := by kernel_rfl
@[simp] theorem tbytes_245 : tbytes Tryd.prog 245 = some 6 := by kernel_rfl
@[simp] theorem tzeroD_245 : tzeroD Tryd.prog 245 = some (.agg ([.int .u16 0, .int .u16 0, .int .u16 0])) := by kernel_rfl
@[simp] theorem foff_245_0 : foff Tryd.prog 245 0 = some 0 := by kernel_rfl
@[simp] theorem ftyp_245_0 : ftyp Tryd.prog 245 0 = some 244 := by kernel_rfl
@[simp] theorem foff_245_1 : foff Tryd.prog 245 1 = some 1 := by kernel_rfl
@[simp] theorem ftyp_245_1 : ftyp Tryd.prog 245 1 = some 244 := by kernel_rfl
@[simp] theorem foff_245_2 : foff Tryd.prog 245 2 = some 2 := by kernel_rfl
@[simp] theorem ftyp_245_2 : ftyp Tryd.prog 245 2 = some 244 := by kernel_rfl
@[simp] theorem fplace_245 : fplace Tryd.prog 245 = some [(0, 1), (1, 1), (2, 1)] := by kernel_rfl
@[simp] theorem flat_245 : flatStruct Tryd.prog 245 = some [.int .u16, .int .u16, .int .u16] := by kernel_rfl
@[simp] theorem tk_246 : tk Tryd.prog 246 = .struct := by kernel_rfl
@[simp] theorem tsz_246 : tsz Tryd.prog 246 = some 3 := by kernel_rfl
@[simp] theorem tzero_246 : tzero Tryd.prog 246 = some ([.d (.int .u16 0), .d (.int .u16 0), .d (.int .u16 0)]) := by kernel_rfl
@[simp] theorem tbytes_246 : tbytes Tryd.prog 246 = some 6 := by kernel_rfl
@[simp] theorem tzeroD_246 : tzeroD Tryd.prog 246 = some (.agg ([.int .u16 0, .int .u16 0, .int .u16 0])) := by kernel_rfl
@[simp] theorem foff_246_0 : foff Tryd.prog 246 0 = some 0 := by kernel_rfl
@[simp] theorem ftyp_246_0 : ftyp Tryd.prog 246 0 = some 244 := by kernel_rfl
@[simp] theorem foff_246_1 : foff Tryd.prog 246 1 = some 1 := by kernel_rfl
@[simp] theorem ftyp_246_1 : ftyp Tryd.prog 246 1 = some 244 := by kernel_rfl
@[simp] theorem foff_246_2 : foff Tryd.prog 246 2 = some 2 := by kernel_rfl
@[simp] theorem ftyp_246_2 : ftyp Tryd.prog 246 2 = some 244 := by kernel_rfl
@[simp] theorem fplace_246 : fplace Tryd.prog 246 = some [(0, 1), (1, 1), (2, 1)] := by kernel_rfl
@[simp] theorem flat_246 : flatStruct Tryd.prog 246 = some [.int .u16, .int .u16, .int .u16] := by kernel_rfl
@[simp] theorem tk_255 : tk Tryd.prog 255 = .struct := by kernel_rfl
@[simp] theorem tsz_255 : tsz Tryd.prog 255 = some 3 := by kernel_rfl
@[simp] theorem tzero_255 : tzero Tryd.prog 255 = some ([.d (.str []), .d (.str []), .lit .nilIface]) := by kernel_rfl
@[simp] theorem foff_255_0 : foff Tryd.prog 255 0 = some 0 := by kernel_rfl
@[simp] theorem ftyp_255_0 : ftyp Tryd.prog 255 0 = some 9 := by kernel_rfl
@[simp] theorem foff_255_1 : foff Tryd.prog 255 1 = some 1 := by kernel_rfl
@[simp] theorem ftyp_255_1 : ftyp Tryd.prog 255 1 = some 9 := by kernel_rfl
@[simp] theorem foff_255_2 : foff Tryd.prog 255 2 = some 2 := by kernel_rfl
@[simp] theorem ftyp_255_2 : ftyp Tryd.prog 255 2 = some 187 := by kernel_rfl
@[simp] theorem fplace_255 : fplace Tryd.prog 255 = some [(0, 1), (1, 1), (2, 1)] := by kernel_rfl
@[simp] theorem tk_256 : tk Tryd.prog 256 = .struct := by kernel_rfl
@[simp] theorem tsz_256 : tsz Tryd.prog 256 = some 3 := by kernel_rfl
@[simp] theorem tzero_256 : tzero Tryd.prog 256 = some ([.d (.str []), .d (.str []), .lit .nilIface]) := by kernel_rfl
@[simp] theorem foff_256_0 : foff Tryd.prog 256 0 = some 0 := by kernel_rfl
@[simp] theorem ftyp_256_0 : ftyp Tryd.prog 256 0 = some 9 := by kernel_rfl
@[simp] theorem foff_256_1 : foff Tryd.prog 256 1 = some 1 := by kernel_rfl
@[simp] theorem ftyp_256_1 : ftyp Tryd.prog 256 1 = some 9 := by kernel_rfl
@[simp] theorem foff_256_2 : foff Tryd.prog 256 2 = some 2 := by kernel_rfl
@[simp] theorem ftyp_256_2 : ftyp Tryd.prog 256 2 = some 187 := by kernel_rfl
@[simp] theorem fplace_256 : fplace Tryd.prog 256 = some [(0, 1), (1, 1), (2, 1)] := by kernel_rfl
@[simp] theorem tk_260 : tk Tryd.prog 260 = .ptr 5 := by kernel_rfl
@[simp] theorem tsz_260 : tsz Tryd.prog 260 = some 1 := by kernel_rfl
@[simp] theorem tk_261 : tk Tryd.prog 261 = .ptr 263 := by kernel_rfl
@[simp] theorem tsz_261 : tsz Tryd.prog 261 = some 1 := by kernel_rfl
@[simp] theorem tk_262 : tk Tryd.prog 262 = .struct := by kernel_rfl
@[simp] theorem tsz_262 : tsz Tryd.prog 262 = some 1 := by kernel_rfl
@[simp] theorem tzero_262 : tzero Tryd.prog 262 = some ([.d (.str [])]) := by kernel_rfl
@[simp] theorem tbytes_262 : tbytes Tryd.prog 262 = some 16 := by kernel_rfl
@[simp] theorem tzeroD_262 : tzeroD Tryd.prog 262 = some (.agg ([.str []])) := by kernel_rfl
@[simp] theorem foff_262_0 : foff Tryd.prog 262 0 = some 0 := by kernel_rfl
@[simp] theorem ftyp_262_0 : ftyp Tryd.prog 262 0 = some 9 := by kernel_rfl
@[simp] theorem fplace_262 : fplace Tryd.prog 262 = some [(0, 1)] := by kernel_rfl
@[simp] theorem flat_262 : flatStruct Tryd.prog 262 = some [.str] := by kernel_rfl
@[simp] theorem tk_263 : tk Tryd.prog 263 = .struct := by kernel_rfl
@[simp] theorem tsz_263 : tsz Tryd.prog 263 = some 1 := by kernel_rfl
@[simp] theorem tzero_263 : tzero Tryd.prog 263 = some ([.d (.str [])]) := by kernel_rfl
@[simp] theorem tbytes_263 : tbytes Tryd.prog 263 = some 16 := by kernel_rfl
@[simp] theorem tzeroD_263 : tzeroD Tryd.prog 263 = some (.agg ([.str []])) := by kernel_rfl
@[simp] theorem foff_263_0 : foff Tryd.prog 263 0 = some 0 := by kernel_rfl
@[simp] theorem ftyp_263_0 : ftyp Tryd.prog 263 0 = some 9 := by kernel_rfl
@[simp] theorem fplace_263 : fplace Tryd.prog 263 = some [(0, 1)] := by kernel_rfl
@[simp] theorem flat_263 : flatStruct Tryd.prog 263 = some [.str] := by kernel_rfl
@[simp] theorem tk_264 : tk Tryd.prog 264 = .struct := by kernel_rfl
@[simp] theorem tsz_264 : tsz Tryd.prog 264 = some 4 := by kernel_rfl
@[simp] theorem tzero_264 : tzero Tryd.prog 264 = some ([.lit (.pointer none), .lit (.pointer none), .lit (.pointer none), .d (.str [])]) := by kernel_rfl
@[simp] theorem foff_264_0 : foff Tryd.prog 264 0 = some 0 := by kernel_rfl
@[simp] theorem ftyp_264_0 : ftyp Tryd.prog 264 0 = some 17 := by kernel_rfl
@[simp] theorem foff_264_1 : foff Tryd.prog 264 1 = some 1 := by kernel_rfl
@[simp] theorem ftyp_264_1 : ftyp Tryd.prog 264 1 = some 17 := by kernel_rfl
@[simp] theorem foff_264_2 : foff Tryd.prog 264 2 = some 2 := by kernel_rfl
@[simp] theorem ftyp_264_2 : ftyp Tryd.prog 264 2 = some 17 := by kernel_rfl
@[simp] theorem foff_264_3 : foff Tryd.prog 264 3 = some 3 := by kernel_rfl
@[simp] theorem ftyp_264_3 : ftyp Tryd.prog 264 3 = some 9 := by kernel_rfl
@[simp] theorem fplace_264 : fplace Tryd.prog 264 = some [(0, 1), (1, 1), (2, 1), (3, 1)] := by kernel_rfl
@[simp] theorem tk_265 : tk Tryd.prog 265 = .struct := by kernel_rfl
@[simp] theorem tsz_265 : tsz Tryd.prog 265 = some 4 := by kernel_rfl
@[simp] theorem tzero_265 : tzero Tryd.prog 265 = some ([.lit (.pointer none), .lit (.pointer none), .lit (.pointer none), .d (.str [])]) := by kernel_rfl
@[simp] theorem foff_265_0 : foff Tryd.prog 265 0 = some 0 := by kernel_rfl
@[simp] theorem ftyp_265_0 : ftyp Tryd.prog 265 0 = some 17 := by kernel_rfl
@[simp] theorem foff_265_1 : foff Tryd.prog 265 1 = some 1 := by kernel_rfl
@[simp] theorem ftyp_265_1 : ftyp Tryd.prog 265 1 = some 17 := by kernel_rfl
@[simp] theorem foff_265_2 : foff Tryd.prog 265 2 = some 2 := by kernel_rfl
@[simp] theorem ftyp_265_2 : ftyp Tryd.prog 265 2 = some 17 := by kernel_rfl
@[simp] theorem foff_265_3 : foff Tryd.prog 265 3 = some 3 := by kernel_rfl
@[simp] theorem ftyp_265_3 : ftyp Tryd.prog 265 3 = some 9 := by kernel_rfl
@[simp] theorem fplace_265 : fplace Tryd.prog 265 = some [(0, 1), (1, 1), (2, 1), (3, 1)] := by kernel_rfl
@[simp] theorem tk_266 : tk Tryd.prog 266 = .arr 0 16 := by kernel_rfl
@[simp] theorem tsz_266 : tsz Tryd.prog 266 = some 0 := by kernel_rfl
@[simp] theorem tzero_266 : tzero Tryd.prog 266 = some ([]) := by kernel_rfl
@[simp] theorem tbytes_266 : tbytes Tryd.prog 266 = some 0 := by kernel_rfl
@[simp] theorem tzeroD_266 : tzeroD Tryd.prog 266 = some (.agg ([])) := by kernel_rfl
@[simp] theorem fplace_266 : fplace Tryd.prog 266 = none := by kernel_rfl
@[simp] theorem tk_267 : tk Tryd.prog 267 = .struct := by kernel_rfl
@[simp] theorem tsz_267 : tsz Tryd.prog 267 = some 0 := by kernel_rfl
@[simp] theorem tzero_267 : tzero Tryd.prog 267 = some ([]) := by kernel_rfl
@[simp] theorem tbytes_267 : tbytes Tryd.prog 267 = some 0 := by kernel_rfl
@[simp] theorem tzeroD_267 : tzeroD Tryd.prog 267 = some (.agg ([])) := by kernel_rfl
@[simp] theorem fplace_267 : fplace Tryd.prog 267 = some [(0, 0)] := by kernel_rfl
@[simp] theorem tk_268 : tk Tryd.prog 268 = .struct := by kernel_rfl
@[simp] theorem tsz_268 : tsz Tryd.prog 268 = some 0 := by kernel_rfl
@[simp] theorem tzero_268 : tzero Tryd.prog 268 = some ([]) := by kernel_rfl
@[simp] theorem tbytes_268 : tbytes Tryd.prog 268 = some 0 := by kernel_rfl
@[simp] theorem tzeroD_268 : tzeroD Tryd.prog 268 = some (.agg ([])) := by kernel_rfl
@[simp] theorem fplace_268 : fplace Tryd.prog 268 = some [(0, 0)] := by kernel_rfl
@[simp] theorem tk_270 : tk Tryd.prog 270 = .int .u8 := by kernel_rfl
@[simp] theorem tsz_270 : tsz Tryd.prog 270 = some 1 := by kernel_rfl
@[simp] theorem tzero_270 : tzero Tryd.prog 270 = some ([.d (.int .u8 0)]) := by kernel_rfl
@[simp] theorem tbytes_270 : tbytes Tryd.prog 270 = some 1 := by kernel_rfl
@[simp] theorem tzeroD_270 : tzeroD Tryd.prog 270 = some (.int .u8 0) := by kernel_rfl
@[simp] theorem tk_271 : tk Tryd.prog 271 = .int .u8 := by kernel_rfl
@[simp] theorem tsz_271 : tsz Tryd.prog 271 = some 1 := by kernel_rfl
@[simp] theorem tzero_271 : tzero Tryd.prog 271 = some ([.d (.int .u8 0)]) := by kernel_rfl
@[simp] theorem tbytes_271 : tbytes Tryd.prog 271 = some 1 := by kernel_rfl
@[simp] theorem tzeroD_271 : tzeroD Tryd.prog 271 = some (.int .u8 0) := by kernel_rfl
@[simp] theorem tk_272 : tk Tryd.prog 272 = .func := by kernel_rfl
@[simp] theorem tsz_272 : tsz Tryd.prog 272 = some 1 := by kernel_rfl
@[simp] theorem tk_273 : tk Tryd.prog 273 = .int .i32 := by kernel_rfl
@[simp] theorem tsz_273 : tsz Tryd.prog 273 = some 1 := by kernel_rfl
@[simp] theorem tzero_273 : tzero Tryd.prog 273 = some ([.d (.int .i32 0)]) := by kernel_rfl
@[simp] theorem tbytes_273 : tbytes Tryd.prog 273 = some 4 := by kernel_rfl
@[simp] theorem tzeroD_273 : tzeroD Tryd.prog 273 = some (.int .i32 0) := by kernel_rfl
@[simp] theorem tk_274 : tk Tryd.prog 274 = .int .i32 := by kernel_rfl
@[simp] theorem tsz_274 : tsz Tryd.prog 274 = some 1 := by kernel_rfl
@[simp] theorem tzero_274 : tzero Tryd.prog 274 = some ([.d (.int .i32 0)]) := by kernel_rfl
@[simp] theorem tbytes_274 : tbytes Tryd.prog 274 = some 4 := by kernel_rfl
@[simp] theorem tzeroD_274 : tzeroD Tryd.prog 274 = some (.int .i32 0) := by kernel_rfl
@[simp] theorem tk_275 : tk Tryd.prog 275 = .struct := by kernel_rfl
@[simp] theorem tsz_275 : tsz Tryd.prog 275 = some 11 := by kernel_rfl
@[simp] theorem tzero_275 : tzero Tryd.prog 275 = some ([.d (.int .u64 0), .d (.int .u64 0), .d (.int .u32 0), .d (.int .u8 0), .d (.int .u8 0), .d (.int .u8 0), .d (.int .u8 0), .lit .nilFunc, .lit (.pointer none), .d (.int .i32 0), .d (.int .i32 0)]) := by kernel_rfl
@[simp] theorem foff_275_0 : foff Tryd.prog 275 0 = some 0 := by kernel_rfl
@[simp] theorem ftyp_275_0 : ftyp Tryd.prog 275 0 = some 12 := by kernel_rfl
@[simp] theorem foff_275_1 : foff Tryd.prog 275 1 = some 1 := by kernel_rfl
@[simp] theorem ftyp_275_1 : ftyp Tryd.prog 275 1 = some 12 := by kernel_rfl
@[simp] theorem foff_275_2 : foff Tryd.prog 275 2 = some 2 := by kernel_rfl
@[simp] theorem ftyp_275_2 : ftyp Tryd.prog 275 2 = some 193 := by kernel_rfl
@[simp] theorem foff_275_3 : foff Tryd.prog 275 3 = some 3 := by kernel_rfl
@[simp] theorem ftyp_275_3 : ftyp Tryd.prog 275 3 = some 270 := by kernel_rfl
@[simp] theorem foff_275_4 : foff Tryd.prog 275 4 = some 4 := by kernel_rfl
@[simp] theorem ftyp_275_4 : ftyp Tryd.prog 275 4 = some 5 := by kernel_rfl
@[simp] theorem foff_275_5 : foff Tryd.prog 275 5 = some 5 := by kernel_rfl
@[simp] theorem ftyp_275_5 : ftyp Tryd.prog 275 5 = some 5 := by kernel_rfl
@[simp] theorem foff_275_6 : foff Tryd.prog 275 6 = some 6 := by kernel_rfl
@[simp] theorem ftyp_275_6 : ftyp Tryd.prog 275 6 = some 271 := by kernel_rfl
@[simp] theorem foff_275_7 : foff Tryd.prog 275 7 = some 7 := by kernel_rfl
@[simp] theorem ftyp_275_7 : ftyp Tryd.prog 275 7 = some 272 := by kernel_rfl
@[simp] theorem foff_275_8 : foff Tryd.prog 275 8 = some 8 := by kernel_rfl
@[simp] theorem ftyp_275_8 : ftyp Tryd.prog 275 8 = some 260 := by kernel_rfl
@[simp] theorem foff_275_9 : foff Tryd.prog 275 9 = some 9 := by kernel_rfl
@[simp] theorem ftyp_275_9 : ftyp Tryd.prog 275 9 = some 273 := by kernel_rfl
@[simp] theorem foff_275_10 : foff Tryd.prog 275 10 = some 10 := by kernel_rfl
@[simp] theorem ftyp_275_10 : ftyp Tryd.prog 275 10 = some 274 := by kernel_rfl
@[simp] theorem fplace_275 : fplace Tryd.prog 275 = some [(0, 1), (1, 1), (2, 1), (3, 1), (4, 1), (5, 1), (6, 1), (7, 1), (8, 1), (9, 1), (10, 1)] := by kernel_rfl
@[simp] theorem tk_276 : tk Tryd.prog 276 = .struct := by kernel_rfl
@[simp] theorem tsz_276 : tsz Tryd.prog 276 = some 11 := by kernel_rfl
@[simp] theorem tzero_276 : tzero Tryd.prog 276 = some ([.d (.int .u64 0), .d (.int .u64 0), .d (.int .u32 0), .d (.int .u8 0), .d (.int .u8 0), .d (.int .u8 0), .d (.int .u8 0), .lit .nilFunc, .lit (.pointer none), .d (.int .i32 0), .d (.int .i32 0)]) := by kernel_rfl
@[simp] theorem foff_276_0 : foff Tryd.prog 276 0 = some 0 := by kernel_rfl
@[simp] theorem ftyp_276_0 : ftyp Tryd.prog 276 0 = some 12 := by kernel_rfl
@[simp] theorem foff_276_1 : foff Tryd.prog 276 1 = some 1 := by kernel_rfl
@[simp] theorem ftyp_276_1 : ftyp Tryd.prog 276 1 = some 12 := by kernel_rfl
@[simp] theorem foff_276_2 : foff Tryd.prog 276 2 = some 2 := by kernel_rfl
@[simp] theorem ftyp_276_2 : ftyp Tryd.prog 276 2 = some 193 := by kernel_rfl
@[simp] theorem foff_276_3 : foff Tryd.prog 276 3 = some 3 := by kernel_rfl
@[simp] theorem ftyp_276_3 : ftyp Tryd.prog 276 3 = some 270 := by kernel_rfl
@[simp] theorem foff_276_4 : foff Tryd.prog 276 4 = some 4 := by kernel_rfl
@[simp] theorem ftyp_276_4 : ftyp Tryd.prog 276 4 = some 5 := by kernel_rfl
@[simp] theorem foff_276_5 : foff Tryd.prog 276 5 = some 5 := by kernel_rfl
@[simp] theorem ftyp_276_5 : ftyp Tryd.prog 276 5 = some 5 := by kernel_rfl
@[simp] theorem foff_276_6 : foff Tryd.prog 276 6 = some 6 := by kernel_rfl
@[simp] theorem ftyp_276_6 : ftyp Tryd.prog 276 6 = some 271 := by kernel_rfl
@[simp] theorem foff_276_7 : foff Tryd.prog 276 7 = some 7 := by kernel_rfl
@[simp] theorem ftyp_276_7 : ftyp Tryd.prog 276 7 = some 272 := by kernel_rfl
@[simp] theorem foff_276_8 : foff Tryd.prog 276 8 = some 8 := by kernel_rfl
@[simp] theorem ftyp_276_8 : ftyp Tryd.prog 276 8 = some 260 := by kernel_rfl
@[simp] theorem foff_276_9 : foff Tryd.prog 276 9 = some 9 := by kernel_rfl
@[simp] theorem ftyp_276_9 : ftyp Tryd.prog 276 9 = some 273 := by kernel_rfl
@[simp] theorem foff_276_10 : foff Tryd.prog 276 10 = some 10 := by kernel_rfl
@[simp] theorem ftyp_276_10 : ftyp Tryd.prog 276 10 = some 274 := by kernel_rfl
@[simp] theorem fplace_276 : fplace Tryd.prog 276 = some [(0, 1), (1, 1), (2, 1), (3, 1), (4, 1), (5, 1), (6, 1), (7, 1), (8, 1), (9, 1), (10, 1)] := by kernel_rfl
@[simp] theorem tk_277 : tk Tryd.prog 277 = .struct := by kernel_rfl
@[simp] theorem tsz_277 : tsz Tryd.prog 277 = some 7 := by kernel_rfl
@[simp] theorem tzero_277 : tzero Tryd.prog 277 = some ([.d (.int .i64 0), .d (.int .i64 0), .d (.int .i64 0), .d (.int .i64 0), .d (.int .i64 0), .d (.int .i64 0), .d (.int .i64 0)]) := by kernel_rfl
@[simp] theorem tbytes_277 : tbytes Tryd.prog 277 = some 56 := by kernel_rfl
@[simp] theorem tzeroD_277 : tzeroD Tryd.prog 277 = some (.agg ([.int .i64 0, .int .i64 0, .int .i64 0, .int .i64 0, .int .i64 0, .int .i64 0, .int .i64 0])) := by kernel_rfl
@[simp] theorem foff_277_0 : foff Tryd.prog 277 0 = some 0 := by kernel_rfl
@[simp] theorem ftyp_277_0 : ftyp Tryd.prog 277 0 = some 3 := by kernel_rfl
@[simp] theorem foff_277_1 : foff Tryd.prog 277 1 = some 1 := by kernel_rfl
@[simp] theorem ftyp_277_1 : ftyp Tryd.prog 277 1 = some 3 := by kernel_rfl
@[simp] theorem foff_277_2 : foff Tryd.prog 277 2 = some 2 := by kernel_rfl
@[simp] theorem ftyp_277_2 : ftyp Tryd.prog 277 2 = some 2 := by kernel_rfl
@[simp] theorem foff_277_3 : foff Tryd.prog 277 3 = some 3 := by kernel_rfl
@[simp] theorem ftyp_277_3 : ftyp Tryd.prog 277 3 = some 2 := by kernel_rfl
@[simp] theorem foff_277_4 : foff Tryd.prog 277 4 = some 4 := by kernel_rfl
@[simp] theorem ftyp_277_4 : ftyp Tryd.prog 277 4 = some 3 := by kernel_rfl
@[simp] theorem foff_277_5 : foff Tryd.prog 277 5 = some 5 := by kernel_rfl
@[simp] theorem ftyp_277_5 : ftyp Tryd.prog 277 5 = some 2 := by kernel_rfl
@[simp] theorem foff_277_6 : foff Tryd.prog 277 6 = some 6 := by kernel_rfl
@[simp] theorem ftyp_277_6 : ftyp Tryd.prog 277 6 = some 2 := by kernel_rfl
@[simp] theorem fplace_277 : fplace Tryd.prog 277 = some [(0, 1), (1, 1), (2, 1), (3, 1), (4, 1), (5, 1), (6, 1)] := by kernel_rfl
@[simp] theorem flat_277 : flatStruct Tryd.prog 277 = some [.int .i64, .int .i64, .int .i64, .int .i64, .int .i64, .int .i64, .int .i64] := by kernel_rfl
@[simp] theorem tk_278 : tk Tryd.prog 278 = .struct := by kernel_rfl
@[simp] theorem tsz_278 : tsz Tryd.prog 278 = some 7 := by kernel_rfl
@[simp] theorem tzero_278 : tzero Tryd.prog 278 = some ([.d (.int .i64 0), .d (.int .i64 0), .d (.int .i64 0), .d (.int .i64 0), .d (.int .i64 0), .d (.int .i64 0), .d (.int .i64 0)]) := by kernel_rfl
@[simp] theorem tbytes_278 : tbytes Tryd.prog 278 = some 56 := by kernel_rfl
@[simp] theorem tzeroD_278 : tzeroD Tryd.prog 278 = some (.agg ([.int .i64 0, .int .i64 0, .int .i64 0, .int .i64 0, .int .i64 0, .int .i64 0, .int .i64 0])) := by kernel_rfl
@[simp] theorem foff_278_0 : foff Tryd.prog 278 0 = some 0 := by kernel_rfl
@[simp] theorem ftyp_278_0 : ftyp Tryd.prog 278 0 = some 3 := by kernel_rfl
@[simp] theorem foff_278_1 : foff Tryd.prog 278 1 = some 1 := by kernel_rfl
@[simp] theorem ftyp_278_1 : ftyp Tryd.prog 278 1 = some 3 := by kernel_rfl
@[simp] theorem foff_278_2 : foff Tryd.prog 278 2 = some 2 := by kernel_rfl
@[simp] theorem ftyp_278_2 : ftyp Tryd.prog 278 2 = some 2 := by kernel_rfl
@[simp] theorem foff_278_3 : foff Tryd.prog 278 3 = some 3 := by kernel_rfl
@[simp] theorem ftyp_278_3 : ftyp Tryd.prog 278 3 = some 2 := by kernel_rfl
@[simp] theorem foff_278_4 : foff Tryd.prog 278 4 = some 4 := by kernel_rfl
@[simp] theorem ftyp_278_4 : ftyp Tryd.prog 278 4 = some 3 := by kernel_rfl
@[simp] theorem foff_278_5 : foff Tryd.prog 278 5 = some 5 := by kernel_rfl
@[simp] theorem ftyp_278_5 : ftyp Tryd.prog 278 5 = some 2 := by kernel_rfl
@[simp] theorem foff_278_6 : foff Tryd.prog 278 6 = some 6 := by kernel_rfl
@[simp] theorem ftyp_278_6 : ftyp Tryd.prog 278 6 = some 2 := by kernel_rfl
@[simp] theorem fplace_278 : fplace Tryd.prog 278 = some [(0, 1), (1, 1), (2, 1), (3, 1), (4, 1), (5, 1), (6, 1)] := by kernel_rfl
@[simp] theorem flat_278 : flatStruct Tryd.prog 278 = some [.int .i64, .int .i64, .int .i64, .int .i64, .int .i64, .int .i64, .int .i64] := by kernel_rfl
end Go.Am
end
section
namespace Go.Am
open Go
def idxO : List D → Option D
  | [.str s, .str t] => if s.length < 4294967281 then some (.int .i64 (Go.Lib.index s t)) else none
  | _ => none
def ibO : List D → Option D
  | [.str s, .int .u8 c] => some (.int .i64 (Go.Lib.indexByte s c.toNat.toUInt8))
  | _ => none
def hpO : List D → Option D
  | [.str s, .str p] => some (.bool (Go.Lib.hasPrefix s p))
  | _ => none
attribute [simp] idxO.eq_1 ibO.eq_1 hpO.eq_1
end Go.Am
end
section
namespace Go.Am
open Go
def splitO : List D → Option D
  | [.str s, .str t] => if s.length < 4294967281 ∧ 1 ≤ t.length then some (.list ((Go.Lib.split s t).map .str)) else none
  | _ => none
def I64' (n : Int) : Prop := -9223372036854775808 ≤ n ∧ n ≤ 9223372036854775807
instance (n : Int) : Decidable (I64' n) := inferInstanceAs (Decidable (_ ∧ _))
def fiO : List D → Option D
  | [.int .i64 n, .int .i64 b] => if b = 10 ∧ I64' n then some (.str (Go.Lib.itoa n)) else none
  | _ => none
def itO : List D → Option D
  | [.int .i64 n] => if I64' n then some (.str (Go.Lib.itoa n)) else none
  | _ => none
def piA (s : List UInt8) : AV := match Go.Lib.parseIntB 64 s with
  | .ok n => .tup [.d (.int .i64 n), .lit .nilIface]
  | .syntax => .tup [.d (.int .i64 0), .err]
  | .range => .tup [.d (.int .i64 (Go.Lib.intSat 64 s)), .err]
def piO : List AV → Option AV
  | [.d (.str s), .d (.int .i64 b), .d (.int .i64 z)] => if b = 10 ∧ z = 64 ∧ s.length ≤ 281474976710656 then some (piA s) else none
  | _ => none
def ffO (g : Nat) (c : Int) : List AV → Option AV
  | [.d (.str s), .fn f []] => if f = g ∧ s.length ≤ 4294967296 then some (.d (.list ((Go.Lib.goFieldsP (fun r => decide ((r : Int) = c)) ⟨s.toArray⟩).map fun x => .str x.data.toList))) else none
  | _ => none
attribute [simp] splitO.eq_1 fiO.eq_1 itO.eq_1 piO.eq_1 ffO.eq_1
end Go.Am
end
section
namespace Go.Am
open Go
noncomputable def denDT (X : Ctx) (f : FuncId) (c : Code) (S : St) (ds : List DF) : XD := lim fun k => denD X f (callN X k) k c S ds
noncomputable def denRT (X : Ctx) (f : FuncId) (rv : AV) (c : Code) (S : St) : Option (XE × St) := lim fun k => denR X f (callN X k) k rv c S
noncomputable def recT (X : Ctx) : CallFn := fun g args cs => lim fun k => recFn X k (callN X k) g args cs
abbrev KtD := XE → St → List DF → Ans
noncomputable def denKD (X : Ctx) (f : FuncId) (c : Code) (S : St) (ds : List DF) (k : KtD) : Ans := (denDT X f c S ds).bind fun p => k p.1 p.2.1 p.2.2
noncomputable def runKD (X : Ctx) (md : Bool) (all ops : List Oper) (S : St) (ds : List DF) (k : KtD) : Ans := (runOpsD X (callT X) md all ops S ds).bind fun p => k p.1 p.2.1 p.2.2
noncomputable def seqKD (X : Ctx) (f : FuncId) (b : Code) (k : KtD) : KtD
  | .normal, S, ds => denKD X f b S ds k
  | e, S, ds => k e S ds
def leaveKD (X : Ctx) (f : FuncId) (id : Nat) (k : KtD) : KtD
  | .normal, S, ds => k .normal (S.leave X f id) ds
  | e, S, ds => k e S ds
noncomputable def nextKD (X : Ctx) (md : Bool) (all r : List Oper) (ds : List DF) (k : KtD) : Kt
  | .normal, S => runKD X md all r S ds k
  | e, S => k e S ds
noncomputable def oneKD (X : Ctx) (md : Bool) (all r : List Oper) (o : Oper) (S : St) (ds : List DF) (k : KtD) : Option DF → Ans
  | some d => runKD X md all r (S.put o.dst true .junk) (d :: ds) k
  | none => runK X md all [o] S (nextKD X md all r ds k)
section
variable {X : Ctx} {f : FuncId} {S : St} {ds : List DF} {md : Bool}
theorem runOpsD_lim (all : List Oper) : ∀ (ops : List Oper) (S : St) (ds : List DF), lim (fun k => runOpsD X (callN X k) md all ops S ds) = runOpsD X (callT X) md all ops S ds
  | [], S, ds => lim_const _
  | o :: r, S, ds => by
    simp only [runOpsD]
    cases deferOf S o with
    | some d => exact runOpsD_lim all r _ _
    | none =>
      simp only [nextD_eq]
      rw [lim_bind (g := fun x n => nT (fun S1 => runOpsD X (callN X n) md all r S1 ds) ds x) (gstep_mono (callN_cmono X) all) (fun x => by
        obtain ⟨e, S1⟩ := x
        cases e with
        | normal => exact runOpsD_mono (callN_cmono X) all r S1 ds
        | _ => exact Mono.const _), gstep_lim]
      congr 1
      funext x
      obtain ⟨e, S1⟩ := x
      cases e with
      | normal => exact runOpsD_lim all r S1 ds
      | _ => exact lim_const _
theorem dmD (c : Code) (S : St) (ds : List DF) : Mono (fun k => denD X f (callN X k) k c S ds) := denD_mono (callN_cmono X) f (m := fun k => k) (fun k => Nat.le_succ k) c S ds
theorem denDT_seq {a b : Code} : denDT X f (.seq a b) S ds = seqD (denDT X f b) (denDT X f a S ds) := by
  unfold denDT
  simp only [denD, seqD_eq]
  rw [lim_bind (g := fun x n => sT (denD X f (callN X n) n b) x) (dmD a S ds) (fun x => by
    obtain ⟨e, S1, ds1⟩ := x
    cases e with
    | normal => exact dmD b S1 ds1
    | _ => exact Mono.const _)]
  congr 1
  funext x
  obtain ⟨e, S1, ds1⟩ := x
  cases e <;> first | rfl | exact lim_const _
theorem denDT_add {c : Code} (h : ∀ k, denD X f (callN X k) k c S ds = addD ds (den X f (callN X k) k c S)) : denDT X f c S ds = addD ds (denT X f c S) := by
  unfold denDT denT
  have : (fun k => denD X f (callN X k) k c S ds) = fun k => (den X f (callN X k) k c S).bind fun q => dT ds q := by
    funext k; rw [h, addD_eq]
  rw [this, lim_bind (dm c S) (fun _ => Mono.const _), addD_eq]
  simp only [lim_const]
theorem denDT_reg {id : Nat} {ops : Array Oper} (h : hasDef ops.toList = true) : denDT X f (.region id ops false) S ds = leaveD (St.leave X f id) (runOpsD X (callT X) (X.md f id) ops.toList ops.toList S ds) := by
  unfold denDT
  have : (fun k => denD X f (callN X k) k (.region id ops false) S ds) = fun k => (runOpsD X (callN X k) (X.md f id) ops.toList ops.toList S ds).bind fun q => lT (St.leave X f id) q := by
    funext k
    simp only [denD, h, Bool.not_false, Bool.and_self, leaveD_eq]
  rw [this, lim_bind (runOpsD_mono (callN_cmono X) _ _ _ _) (fun _ => Mono.const _), runOpsD_lim, leaveD_eq]
  simp only [lim_const]
variable {k : KtD}
theorem denKD_seq {a b : Code} : denKD X f (.seq a b) S ds k = denKD X f a S ds (seqKD X f b k) := by
  simp only [denKD, denDT_seq]
  rcases denDT X f a S ds with _ | ⟨e, S1, ds1⟩
  · rfl
  · cases e <;> rfl
theorem denKD_add {c : Code} (h : denDT X f c S ds = addD ds (denT X f c S)) : denKD X f c S ds k = denK X f c S fun e S => k e S ds := by
  simp only [denKD, denK, h]
  rcases denT X f c S with _ | ⟨e, S1⟩ <;> rfl
theorem denKD_cond {o : Operand} {a b : Code} : denKD X f (.cond o a b) S ds k = denK X f (.cond o a b) S fun e S => k e S ds := denKD_add (denDT_add fun _ => rfl)
theorem denKD_ret : denKD X f .ret S ds k = denK X f .ret S fun e S => k e S ds := denKD_add (denDT_add fun _ => rfl)
theorem denKD_skip : denKD X f .skip S ds k = denK X f .skip S fun e S => k e S ds := denKD_add (denDT_add fun _ => rfl)
theorem denKD_loop {c : Code} : denKD X f (.loop c) S ds k = denK X f (.loop c) S fun e S => k e S ds := denKD_add (denDT_add fun _ => rfl)
theorem denKD_block {id : Nat} {c : Code} : denKD X f (.block id c) S ds k = denK X f (.block id c) S fun e S => k e S ds := denKD_add (denDT_add fun _ => rfl)
theorem denKD_draw {id : Nat} {ops : Array Oper} : denKD X f (.region id ops true) S ds k = denK X f (.region id ops true) S fun e S => k e S ds := denKD_add (denDT_add fun _ => rfl)
theorem denKD_reg {id : Nat} {l : List Oper} : denKD X f (.region id ⟨l⟩ false) S ds k = if hasDef l = true then runKD X (X.md f id) l l S ds (leaveKD X f id k) else denK X f (.region id ⟨l⟩ false) S fun e S => k e S ds := by
  split
  · rename_i h
    simp only [denKD, runKD, denDT_reg (ops := ⟨l⟩) h]
    rcases runOpsD X (callT X) (X.md f id) l l S ds with _ | ⟨e, S1, ds1⟩
    · rfl
    · cases e <;> rfl
  · rename_i h
    exact denKD_add (denDT_add fun _ => by simp [denD, h])
theorem runKD_nil {all : List Oper} : runKD X md all [] S ds k = k .normal S ds := rfl
theorem runKD_cons {all r : List Oper} {o : Oper} : runKD X md all (o :: r) S ds k = oneKD X md all r o S ds k (deferOf S o) := by
  simp only [runKD, runOpsD]
  cases deferOf S o with
  | some d => rfl
  | none =>
    simp only [oneKD, runK, runOps, nextD_eq, andThen_eq]
    rcases gstep X (callT X) md all S o with _ | ⟨e, S1⟩
    · rfl
    · cases e <;> rfl
end
end Go.Am
end
section
namespace Go.Am
open Go
noncomputable def finKD (X : Ctx) (p : FPol) (n0 : Nat) (rs : List ResultVar) : KtD
  | e, S, [] => finK X.P p n0 rs e S
  | e, S, [d] => finD1 X p n0 rs (recT X) S d (recA e)
  | _, _, _ => none
noncomputable def denRK (X : Ctx) (f : FuncId) (rv : AV) (c : Code) (S : St) (k : Kt) : Ans := (denRT X f rv c S).bind fun p => k p.1 p.2
def finRK (P : Program) (p : FPol) (n0 : Nat) (rs : List ResultVar) : Kt
  | .normal, S => finish P p n0 rs S
  | .ret, S => finish P p n0 rs S
  | _, _ => none
section
variable {X : Ctx} {f : FuncId} {S : St}
theorem recFn_cmono (X : Ctx) : CMono fun k => recFn X k (callN X k) := recFn_mono (callN_cmono X) (m := fun k => k) (fun k => Nat.le_succ k)
theorem callOpC_lim {C : Nat → CallFn} (hC : CMono C) (m : Mem) (k0 : Nat) (g : FuncId) (ys : List AV) (mt : List Nat) : lim (fun k => callOp (C k) m k0 g ys mt) = callOp (fun g a c => lim fun k => C k g a c) m k0 g ys mt := by
  unfold callOp callOp2 callOp3
  simp only [callBack_eq]
  rw [lim_bind (hC _ _ _) (fun _ => Mono.const _)]
  simp only [lim_const]
theorem finD1_lim (p : FPol) (n0 : Nat) (rs : List ResultVar) (d : DF) (rv : Option AV) : lim (fun k => finD1 X p n0 rs (recFn X k (callN X k)) S d rv) = finD1 X p n0 rs (recT X) S d rv := by
  cases rv with
  | none => exact lim_const _
  | some rv =>
    simp only [finD1, finM_eq, memC_eq S (callOp _ _ _ _ _ _)]
    rw [lim_bind (g := fun S _ => finish X.P p n0 rs S) ((callOp_mono (recFn_cmono X) _ _ _ _ _).bind (g := fun c _ => memC S (some c)) fun _ => Mono.const _) (fun _ => Mono.const _),
      lim_bind (g := fun c _ => memC S (some c)) (callOp_mono (recFn_cmono X) _ _ _ _ _) (fun _ => Mono.const _), callOpC_lim (recFn_cmono X)]
    simp only [lim_const]
    rfl
theorem call_runD {fn : Func} {c : Code} {args : List AV} {cs : List Cont} {n : Nat} {rs : List ResultVar} {p : FPol} (hov : X.ov = none) (hor : X.orc f = none) (hf : X.P.funcs[f]? = some fn) (hb : fn.body = some c) (hdf : defC c = true) (hn : fn.ntmps = n) (hrs : fn.results.toList = rs)
    (hp : X.fp f = p) (hok : callOk n p args cs = true) : callT X f args cs = denKD X f c (entry n X.gl args cs p.sites) [] (finKD X p cs.length rs) := by
  subst hp
  subst hn
  subst hrs
  unfold callT
  rw [← lim_shift (callN_cmono X f args cs)]
  have e1 : (fun k => callN X (k + 1) f args cs) = fun k => (denD X f (callN X k) k c (entry fn.ntmps X.gl args cs (X.fp f).sites) []).bind fun q => finD X (X.fp f) cs.length fn.results.toList (recFn X k (callN X k)) (some q) := by
    funext k
    rw [callN, hov, hor, hf]
    simp only [hb, hdf, bodyRun, runFnD]
    rw [if_pos (by simpa only [callOk] using hok), finD_eq]
  rw [e1, lim_bind (g := fun q k => finD X (X.fp f) cs.length fn.results.toList (recFn X k (callN X k)) (some q)) (dmD c _ _) (fun q => finDs_mono (recFn_cmono X) _ _ _ q)]
  simp only [denKD]
  congr 1
  funext q
  obtain ⟨e, S1, ds⟩ := q
  match ds with
  | [] =>
    simp only [finD, finKD, lim_const]
    cases e <;> rfl
  | [d] => exact finD1_lim _ _ _ _ _
  | _ :: _ :: _ => exact lim_const _
theorem rec_run {fn : Func} {c : Code} {args ys : List AV} {rv : AV} {cs : List Cont} {n : Nat} {rs : List ResultVar} {p : FPol} (hf : X.P.funcs[f]? = some fn) (hb : fn.body = some c) (hn : fn.ntmps = n) (hrs : fn.results.toList = rs)
    (hp : X.fp f = p) (hl : args.getLast? = some rv) (hy : args.dropLast = ys) (hok : callOk n p ys cs = true) : recT X f args cs = denRK X f rv c (entry n X.gl ys cs p.sites) (finRK X.P p cs.length rs) := by
  subst hp
  subst hn
  subst hrs
  subst hy
  unfold recT
  have e1 : (fun k => recFn X k (callN X k) f args cs) = fun k => (denR X f (callN X k) k rv c (entry fn.ntmps X.gl args.dropLast cs (X.fp f).sites)).bind fun q => finR X.P (X.fp f) cs.length fn.results.toList (some q) := by
    funext k
    simp only [recFn, hf, hb, runFnR, hl]
    rw [if_pos (by simpa only [callOk] using hok), finR_eq]
  rw [e1, lim_bind (denR_mono (callN_cmono X) f (m := fun k => k) (fun k => Nat.le_succ k) rv c _) (fun _ => Mono.const _)]
  simp only [denRK, lim_const]
  congr 1
  funext q
  obtain ⟨e, S1⟩ := q
  cases e <;> rfl
variable {k : Kt} {rv : AV}
theorem denRK_seq {a b : Code} : denRK X f rv (.seq a b) S k = denRK X f rv a S (seqK X f b k) := by
  have h : denRT X f rv (.seq a b) S = andThen (denRT X f rv a S) (denT X f b) :=
    andThen_lim (F := fun n => denR X f (callN X n) n rv a S) (K := fun S' n => den X f (callN X n) n b S') (denR_mono (callN_cmono X) f (m := fun k => k) (fun k => Nat.le_succ k) rv a S) (fun S' => dm b S')
  simp only [denRK, h, andThen_bind]
  congr 1
  funext q
  obtain ⟨e, S1⟩ := q
  cases e <;> rfl
theorem denRK_reg {id : Nat} {o : Oper} {r : List Oper} (h : isRecover o = true) : denRK X f rv (.region id ⟨o :: r⟩ false) S k = runK X (X.md f id) (o :: r) r (S.put o.dst true rv) (leaveK X f id k) := by
  have h1 : denRT X f rv (.region id ⟨o :: r⟩ false) S = mapN (St.leave X f id) (runOps X (callT X) (X.md f id) (o :: r) r (S.put o.dst true rv)) := by
    unfold denRT
    have : (fun k => denR X f (callN X k) k rv (.region id ⟨o :: r⟩ false) S) = fun k => (runOps X (callN X k) (X.md f id) (o :: r) r (S.put o.dst true rv)).bind fun q => mT (St.leave X f id) q := by
      funext k
      simp only [denR, h, if_true, mapN_eq]
    rw [this, lim_bind (runOps_mono (callN_cmono X) _ _ _) (fun _ => Mono.const _), runOps_lim, mapN_eq]
    simp only [lim_const]
  simp only [denRK, runK, h1]
  rcases runOps X (callT X) (X.md f id) (o :: r) r (S.put o.dst true rv) with _ | ⟨e, S1⟩
  · rfl
  · cases e <;> rfl
end
end Go.Am
end
section
namespace Go.Am
open Go
def Ctx.over (X : Ctx) (cl : CallFn) : Ctx := { X with ov := some cl }
section
variable {X : Ctx} {cl C : CallFn} {f : FuncId}
@[simp] theorem over_P : (X.over cl).P = X.P := rfl
@[simp] theorem over_gl : (X.over cl).gl = X.gl := rfl
@[simp] theorem over_keep : (X.over cl).keep = X.keep := rfl
@[simp] theorem over_gh : (X.over cl).gh = X.gh := rfl
@[simp] theorem over_md : (X.over cl).md = X.md := rfl
@[simp] theorem over_fp : (X.over cl).fp = X.fp := rfl
@[simp] theorem over_od : (X.over cl).od = X.od := rfl
@[simp] theorem over_fl : (X.over cl).fl = X.fl := rfl
@[simp] theorem callT_over : callT (X.over cl) = cl := by
  funext g a c
  unfold callT
  rw [← lim_shift (callN_cmono (X.over cl) g a c)]
  have : (fun n => callN (X.over cl) (n + 1) g a c) = fun _ => cl g a c := rfl
  rw [this, lim_const]
theorem runOps_over (md : Bool) (all : List Oper) : ∀ (ops : List Oper) (S : St), runOps (X.over cl) C md all ops S = runOps X C md all ops S
  | [], S => rfl
  | o :: r, S => by
    have ih : runOps (X.over cl) C md all r = runOps X C md all r := funext (runOps_over md all r)
    simp only [runOps, ih]
    rfl
theorem pOps_over (md : Bool) (all : List Oper) (js : List Nat) : ∀ (ops : List Oper) (i : Nat) (S : St) (acc : List Stp), pOps (X.over cl) md all js i ops S acc = pOps X md all js i ops S acc
  | [], i, S, acc => rfl
  | o :: r, i, S, acc => by
    have ih : pOps (X.over cl) md all js (i + 1) r = pOps X md all js (i + 1) r := funext fun S => funext (pOps_over md all js r (i + 1) S)
    simp only [pOps, ih]
    rfl
theorem panE_over (md : Bool) (nd : Nat × List (List Nat)) (all r : List Oper) (d : Option Nat) (acc : List Stp) (q : Pan) : panE (X.over cl) md nd all r d acc q = panE X md nd all r d acc q := by
  simp only [panE, pOps_over]
theorem drwO_over (md : Bool) (nd : Nat × List (List Nat)) (all r : List Oper) (S : St) (o : Oper) (acc : List Stp) (k : St → List Stp → Option (XE × St)) : ∀ p, drwO (X.over cl) C md nd all r S o acc k p = drwO X C md nd all r S o acc k p
  | some q => panE_over md nd all r o.dst acc q
  | none => rfl
theorem drwOps_over (md : Bool) (nd : Nat × List (List Nat)) (all : List Oper) : ∀ (ops : List Oper) (S : St) (acc : List Stp), drwOps (X.over cl) C md nd all ops S acc = drwOps X C md nd all ops S acc
  | [], S, acc => rfl
  | o :: r, S, acc => by
    have ih : drwOps (X.over cl) C md nd all r = drwOps X C md nd all r := funext fun S => funext (drwOps_over md nd all r S)
    simp only [drwOps, ih, drwO_over]
    rfl
theorem drwI_over (md : Bool) (nd : List (List Nat)) (LI : List Cl) (all : List Oper) : ∀ (ops : List Oper) (S : St) (acc : List Stp), drwI (X.over cl) C md nd LI all ops S acc = drwI X C md nd LI all ops S acc
  | [], S, acc => rfl
  | o :: r, S, acc => by
    have ih : drwI (X.over cl) C md nd LI all r = drwI X C md nd LI all r := funext fun S => funext (drwI_over md nd LI all r S)
    simp only [drwI, ih]
    rfl
theorem drwA_over (md : Bool) (nd : List (List Nat)) (all : List Oper) (S : St) (fl : List (Nat × Nat)) : drwA (X.over cl) C md nd all S fl = drwA X C md nd all S fl := by
  cases fl with
  | nil => exact drwOps_over md _ all all S []
  | cons q r =>
    simp only [drwA]
    cases ents S.mem (q :: r) with
    | none => rfl
    | some LI => exact drwI_over md nd LI all all S []
theorem den_over (n : Nat) : ∀ (c : Code) (S : St), den (X.over cl) f C n c S = den X f C n c S := by
  intro c
  induction c with
  | region id ops draw =>
    intro S
    cases draw with
    | false => simp only [den, runOps_over]; rfl
    | true => simp only [den, drwA_over]; rfl
  | seq a b iha ihb =>
    intro S
    have h : den (X.over cl) f C n b = den X f C n b := funext ihb
    simp only [den, iha, h]
  | cond c a b iha ihb => intro S; simp only [den, iha, ihb]
  | block id c ih => intro S; simp only [den, ih]
  | loop c ih =>
    intro S
    have h : den (X.over cl) f C n c = den X f C n c := funext ih
    simp only [den, h]
  | _ => intro S; rfl
theorem den_le {cl cl' : CallFn} (h : ∀ g a c r, cl g a c = some r → cl' g a c = some r) {n : Nat} {c : Code} {S : St} {r : XE × St} (hr : den X f cl n c S = some r) : den X f cl' n c S = some r := by
  have hC : CMono fun k => if k = 0 then cl else cl' := by
    intro g a c k r h0
    by_cases hk : k = 0
    · subst hk; exact h g a c r h0
    · simp only [hk, if_false] at h0; simpa using h0
  exact den_mono (X := X) hC f (m := fun _ => n) (fun _ => Nat.le_refl _) c S 0 r hr
theorem den_T : ∀ (c : Code) (n : Nat) (S : St) (r : XE × St), den X f (callT X) n c S = some r → denT X f c S = some r := by
  intro c
  induction c with
  | region id ops draw =>
    intro n S r h
    cases draw with
    | false => rw [denT_region]; exact h
    | true => rw [denT_draw]; exact h
  | seq a b iha ihb =>
    intro n S r h
    rw [denT_seq]
    simp only [den] at h
    rcases andThen_some h with ⟨S1, h1, h2⟩ | ⟨h1, h2⟩
    · rw [iha n S _ h1]; exact ihb n S1 r h2
    · rw [iha n S _ h1]
      obtain ⟨e, S1⟩ := r
      cases e with
      | normal => exact absurd rfl h2
      | _ => rfl
  | cond c a b iha ihb =>
    intro n S r h
    rw [denT_cond]
    simp only [den] at h
    revert h
    generalize S.opd c = v
    intro h
    unfold condB at h ⊢
    split at h
    · split at h
      · rename_i ht; simp only [ht, if_true]; exact iha n S r h
      · rename_i ht; simp only [ht, if_false]; exact ihb n S r h
    · cases h
  | block id c ih =>
    intro n S r h
    rw [denT_block]
    simp only [den] at h
    rcases hd : den X f (callT X) n c S with _ | ⟨q⟩
    · rw [hd] at h; cases h
    · rw [hd] at h; rw [ih n S q hd]; exact h
  | loop c ih =>
    intro n S r h
    simp only [den] at h
    have key : ∀ (j : Nat) (S : St) (r : XE × St), iter (den X f (callT X) n c) j S = some r → denT X f (.loop c) S = some r := by
      intro j
      induction j with
      | zero => intro S r h; cases h
      | succ j ihj =>
        intro S r h
        rw [denT_loop]
        simp only [iter] at h
        rcases andThen_some h with ⟨S1, h1, h2⟩ | ⟨h1, h2⟩
        · rw [ih n S _ h1]; exact ihj S1 r h2
        · rw [ih n S _ h1]
          obtain ⟨e, S1⟩ := r
          cases e with
          | normal => exact absurd rfl h2
          | _ => rfl
    exact key n S r h
  | skip => intro n S r h; rw [denT_skip]; exact h
  | exit id => intro n S r h; rw [denT_exit]; exact h
  | ret => intro n S r h; rw [denT_ret]; exact h
  | _ => intro n S r h; cases h
theorem denT_over (h : ∀ g a c r, cl g a c = some r → callT X g a c = some r) {c : Code} {S : St} {r : XE × St} (hr : denT (X.over cl) f c S = some r) : denT X f c S = some r := by
  obtain ⟨n, hn⟩ := (lim_some (dm (X := X.over cl) c S)).1 hr
  rw [den_over] at hn
  refine den_T c n S r (den_le ?_ hn)
  intro g a c r h1
  cases n with
  | zero => cases h1
  | succ n => exact h g a c r h1
theorem denK_over (h : ∀ g a c r, cl g a c = some r → callT X g a c = some r) {c : Code} {S : St} {k : Kt} {r : Out × List (Nat × Cont)} (hr : denK (X.over cl) f c S k = some r) : denK X f c S k = some r := by
  simp only [denK] at hr ⊢
  cases hd : denT (X.over cl) f c S with
  | none => rw [hd] at hr; cases hr
  | some q => rw [hd] at hr; rw [denT_over h hd]; exact hr
theorem recur {T : Type} (fid : T → FuncId) (args : T → List AV) (cs : T → List Cont) (ans : Nat → T → Ans) (h0 : ∀ t, ans 0 t = none)
    (hinj : ∀ t t', fid t = fid t' → args t = args t' → cs t = cs t' → ∀ f, ans f t = ans f t')
    (hstep : ∀ (f : Nat) (cl : CallFn), (∀ g a c r, cl g a c = some r → callT X g a c = some r) → (∀ t, cl (fid t) (args t) (cs t) = ans f t) → (∀ g, (∀ t, g ≠ fid t) → ∀ a c, cl g a c = callT X g a c) →
      ∀ t r, ans (f + 1) t = some r → callT X (fid t) (args t) (cs t) = some r) : ∀ f t r, ans f t = some r → callT X (fid t) (args t) (cs t) = some r
  | 0, t, r, h => by rw [h0] at h; cases h
  | f + 1, t, r, h => by
    have ih := recur fid args cs ans h0 hinj hstep f
    classical
    refine hstep f (fun g a c => if ∀ t, g = fid t → a = args t → c = cs t → ans f t ≠ none then callT X g a c else none) ?_ ?_ ?_ t r h
    · intro g a c r h
      split at h
      · exact h
      · cases h
    · intro t
      cases ha : ans f t with
      | none =>
        show (if _ then _ else _) = _
        rw [if_neg]
        intro h
        exact h t rfl rfl rfl ha
      | some r =>
        show (if _ then _ else _) = _
        rw [if_pos]
        · exact ih t r ha
        · intro t' h1 h2 h3 h4
          rw [← hinj t t' h1 h2 h3 f, ha] at h4
          cases h4
    · intro g hg a c
      show (if _ then _ else _) = _
      rw [if_pos]
      intro t h1
      exact absurd h1 (hg t)
end
inductive PR (ε σ α : Type) where
  | ok (a : α) (s : σ)
  | bad (e : ε) (s : σ)
  | out
section
variable {ε σ α β γ : Type}
def PR.el (r : PR ε σ α) (f : α → σ → Option β) (g : ε → σ → Option β) : Option β :=
  match r with
  | .ok a s => f a s
  | .bad e s => g e s
  | .out => none
@[simp] theorem el_ok {a : α} {s : σ} {f : α → σ → Option β} {g : ε → σ → Option β} : (PR.ok a s).el f g = f a s := rfl
@[simp] theorem el_bad {e : ε} {s : σ} {f : α → σ → Option β} {g : ε → σ → Option β} : (PR.bad e s).el f g = g e s := rfl
@[simp] theorem el_out {f : α → σ → Option β} {g : ε → σ → Option β} : (PR.out : PR ε σ α).el f g = none := rfl
@[simp] theorem el_ite {c : Prop} [Decidable c] {a b : PR ε σ α} {f : α → σ → Option β} {g : ε → σ → Option β} : (if c then a else b).el f g = if c then a.el f g else b.el f g := by split <;> rfl
def PR.bind (r : PR ε σ α) (k : α → σ → PR ε σ γ) : PR ε σ γ :=
  match r with
  | .ok a s => k a s
  | .bad e s => .bad e s
  | .out => .out
@[simp] theorem bind_ok {a : α} {s : σ} {k : α → σ → PR ε σ γ} : (PR.ok a s).bind k = k a s := rfl
@[simp] theorem bind_bad {e : ε} {s : σ} {k : α → σ → PR ε σ γ} : (PR.bad e s : PR ε σ α).bind k = .bad e s := rfl
@[simp] theorem bind_out {k : α → σ → PR ε σ γ} : (PR.out : PR ε σ α).bind k = .out := rfl
@[simp] theorem el_bind {r : PR ε σ α} {k : α → σ → PR ε σ γ} {f : γ → σ → Option β} {g : ε → σ → Option β} : (r.bind k).el f g = r.el (fun a s => (k a s).el f g) g := by cases r <;> rfl
@[simp] theorem el_el {r : PR ε σ α} {f : α → σ → Option β} {g : ε → σ → Option β} : r.el (fun a s => f a s) (fun e s => g e s) = r.el f g := rfl
theorem el_frz {n0 : Nat} {b : Bool} {r : PR ε σ α} {f : α → σ → Ans} {g : ε → σ → Ans} : frzR n0 b (r.el f g) = r.el (fun a s => frzR n0 b (f a s)) (fun e s => frzR n0 b (g e s)) := by cases r <;> rfl
theorem el_back {m : Mem} {k0 : Nat} {ρ B : List Nat} {r : PR ε σ α} {f : α → σ → Ans} {g : ε → σ → Ans} : callBack m k0 ρ B (r.el f g) = r.el (fun a s => callBack m k0 ρ B (f a s)) (fun e s => callBack m k0 ρ B (g e s)) := by cases r <;> rfl
theorem el_callK {X : Ctx} {md : Bool} {S : St} {d : Option Nat} {all q : List Oper} {k : Kt} {r : PR ε σ α} {f : α → σ → Option CRes} {g : ε → σ → Option CRes} : callK X md S d all q k (r.el f g) = r.el (fun a s => callK X md S d all q k (f a s)) (fun e s => callK X md S d all q k (g e s)) := by cases r <;> rfl
theorem el_dcallK {X : Ctx} {md : Bool} {nd : Nat × List (List Nat)} {S : St} {d : Option Nat} {all q : List Oper} {acc : List Stp} {k : Kt} {r : PR ε σ α} {f : α → σ → Option CRes} {g : ε → σ → Option CRes} : dcallK X md nd S d all q acc k (r.el f g) = r.el (fun a s => dcallK X md nd S d all q acc k (f a s)) (fun e s => dcallK X md nd S d all q acc k (g e s)) := by cases r <;> rfl
def Le (a b : Option β) : Prop := ∀ r, a = some r → b = some r
theorem Le.refl (a : Option β) : Le a a := fun _ h => h
theorem Le.of_eq {a b : Option β} (h : a = b) : Le a b := by subst h; exact Le.refl _
theorem Le.trans {a b c : Option β} (h : Le a b) (k : Le b c) : Le a c := fun r hr => k r (h r hr)
theorem Le.none {b : Option β} : Le none b := fun _ h => by cases h
theorem Le.el {r : PR ε σ α} {f f' : α → σ → Option β} {g g' : ε → σ → Option β} (hf : ∀ a s, Le (f a s) (f' a s)) (hg : ∀ e s, Le (g e s) (g' e s)) : Le (r.el f g) (r.el f' g') := by
  cases r with
  | ok a s => exact hf a s
  | bad e s => exact hg e s
  | out => exact Le.none
theorem Le.ite {c : Prop} [Decidable c] {a b a' b' : Option β} (h : c → Le a a') (h' : ¬ c → Le b b') : Le (if c then a else b) (if c then a' else b') := by
  split
  · exact h ‹_›
  · exact h' ‹_›
end
end Go.Am
end
section
namespace Go.Am
open Go
section
variable {X : Ctx} {cl : CallFn} {md : Bool} {all : List Oper} {S : St}
@[simp] theorem dgstep_none {d : Option Tmp} {op : Op} {ty : TypeId} {pos : String} {af : Array Edge} : dgstep X cl md all S ⟨d, op, ty, pos, af, none⟩ = dstep X cl S ⟨d, op, ty, pos, af, none⟩ (stepv X.P S ⟨d, op, ty, pos, af, none⟩) := rfl
@[simp] theorem pOps_nil {js : List Nat} {i : Nat} {acc : List Stp} : pOps X md all js i [] S acc = some (revA acc []) := by rw [revA_eq, List.append_nil]; rfl
theorem pOps_cons {js : List Nat} {i : Nat} {o : Oper} {r : List Oper} {acc : List Stp} : pOps X md all js i (o :: r) S acc = if js.contains i = true then (match dgstep X (fun _ _ _ => none) md all S o with
      | some (S1, p) => pOps X md all js (i + 1) r S1 (p :: acc)
      | none => none) else pOps X md all js (i + 1) r (S.put o.dst false .junk) (⟨[], [], false, .junk⟩ :: acc) := by
  simp only [pOps]
  cases js.contains i <;> rfl
end
attribute [simp] pOps_cons dstep.eq_1 dstep.eq_2 dstep.eq_3 panE.eq_1 pEnd.eq_1 pEnd.eq_2 verSum.eq_1 verSum.eq_2 verSums.eq_1 verSums.eq_2 killM.eq_1 killM.eq_2 St.kill.eq_1 farE.eq_1 farE.eq_2 farJ.eq_1 farJ.eq_2
attribute [simp] el_frz el_back el_callK el_dcallK
section
variable {ε σ α : Type} {X : Ctx} {md : Bool} {nd : Nat × List (List Nat)} {S : St} {d : Option Nat} {all q : List Oper} {acc : List Stp} {k : Kt} {r : PR ε σ α} {f : α → σ → Option CRes} {g : ε → σ → Option CRes}
@[simp] theorem el_dcallG : dcallG X md nd S d all q acc k (r.el f g) = r.el (fun a s => dcallG X md nd S d all q acc k (f a s)) (fun e s => dcallG X md nd S d all q acc k (g e s)) := by cases r <;> rfl
@[simp] theorem el_memC : memC S (r.el f g) = r.el (fun a s => memC S (f a s)) (fun e s => memC S (g e s)) := by cases r <;> rfl
@[simp] theorem el_finM {p : FPol} {n0 : Nat} {rs : List ResultVar} {f : α → σ → Option St} {g : ε → σ → Option St} : finM X p n0 rs (r.el f g) = r.el (fun a s => finM X p n0 rs (f a s)) (fun e s => finM X p n0 rs (g e s)) := by cases r <;> rfl
end
attribute [simp] denKD_seq denKD_cond denKD_ret denKD_skip denKD_loop denKD_block denKD_draw denKD_reg runKD_nil runKD_cons
attribute [simp] seqKD.eq_1 leaveKD.eq_1 nextKD.eq_1 oneKD.eq_1 oneKD.eq_2 finKD.eq_1 finKD.eq_2 finM.eq_1 finM.eq_2 memC.eq_1 recA.eq_1 recA.eq_2 recA.eq_3 finD1.eq_1 denRK_seq finRK.eq_1 finRK.eq_2
section
variable {X : Ctx} {f : FuncId} {S : St} {ds : List DF} {kd : KtD} {b : Code}
@[simp] theorem seqKD_r : seqKD X f b kd .ret S ds = kd .ret S ds := rfl
@[simp] theorem seqKD_p {t : TypeId} {x : D} : seqKD X f b kd (.panic t x) S ds = kd (.panic t x) S ds := rfl
@[simp] theorem seqKD_x {i : Nat} : seqKD X f b kd (.exit i) S ds = kd (.exit i) S ds := rfl
@[simp] theorem leaveKD_p {id : Nat} {t : TypeId} {x : D} : leaveKD X f id kd (.panic t x) S ds = kd (.panic t x) S ds := rfl
@[simp] theorem nextKD_p {md : Bool} {all r : List Oper} {t : TypeId} {x : D} : nextKD X md all r ds kd (.panic t x) S = kd (.panic t x) S ds := rfl
end
end Go.Am
end
