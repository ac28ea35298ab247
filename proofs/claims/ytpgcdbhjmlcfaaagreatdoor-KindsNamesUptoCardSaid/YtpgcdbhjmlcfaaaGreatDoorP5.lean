/-
  Texts of one proof, one behind the other.
-/
import Derived.Test.YtpgcdbhjmlcfaaaGreatDoorP4
import Derived.Test.YtpgcdbhjmlcfaaaGreatDoorProg
import Derived.KernelRfl
import Derived.Lib.Bytealg
import Derived.Lib.Index
import Derived.Lib.Strings
set_option linter.all false
section
namespace Go.Am
open Go
open Go.Proofs
@[simp] theorem tk_1 : (tk Tryz.prog 1 = .func) ∧ tsz Tryz.prog 1 = some 1 := by and_intros <;> kernel_rfl
@[simp] theorem tk_2 : tk Tryz.prog 2 = .int .i64 ∧ tsz Tryz.prog 2 = some 1 ∧ tzero Tryz.prog 2 = some ([.d (.int .i64 0)]) ∧ tbytes Tryz.prog 2 = some 8 ∧ tzeroD Tryz.prog 2 = some (.int .i64 0) := by and_intros <;> kernel_rfl
@[simp] theorem tk_3 : tk Tryz.prog 3 = .int .i64 ∧ tsz Tryz.prog 3 = some 1 ∧ tzero Tryz.prog 3 = some ([.d (.int .i64 0)]) ∧ tbytes Tryz.prog 3 = some 8 ∧ tzeroD Tryz.prog 3 = some (.int .i64 0) := by and_intros <;> kernel_rfl
@[simp] theorem tk_4 : tk Tryz.prog 4 = .bool ∧ tsz Tryz.prog 4 = some 1 ∧ tzero Tryz.prog 4 = some ([.d (.bool false)]) ∧ tbytes Tryz.prog 4 = some 1 ∧ tzeroD Tryz.prog 4 = some (.bool false) := by and_intros <;> kernel_rfl
@[simp] theorem tk_5 : tk Tryz.prog 5 = .int .u8 ∧ tsz Tryz.prog 5 = some 1 ∧ tzero Tryz.prog 5 = some ([.d (.int .u8 0)]) ∧ tbytes Tryz.prog 5 = some 1 ∧ tzeroD Tryz.prog 5 = some (.int .u8 0) := by and_intros <;> kernel_rfl
@[simp] theorem tk_6 : tk Tryz.prog 6 = .int .u8 ∧ tsz Tryz.prog 6 = some 1 ∧ tzero Tryz.prog 6 = some ([.d (.int .u8 0)]) ∧ tbytes Tryz.prog 6 = some 1 ∧ tzeroD Tryz.prog 6 = some (.int .u8 0) := by and_intros <;> kernel_rfl
@[simp] theorem tk_7 : tk Tryz.prog 7 = .struct ∧ tsz Tryz.prog 7 = some 4 ∧ tzero Tryz.prog 7 = some ([.d (.int .i64 0), .d (.int .i64 0), .d (.bool false), .d (.int .u8 0)]) ∧ tbytes Tryz.prog 7 = some 24 ∧ tzeroD Tryz.prog 7 = some (.agg ([.int .i64 0, .int .i64 0, .bool false, .int .u8 0])) := by and_intros <;> kernel_rfl
@[simp] theorem foff_7_0 : foff Tryz.prog 7 0 = some 0 ∧ ftyp Tryz.prog 7 0 = some 2 := by and_intros <;> kernel_rfl
@[simp] theorem foff_7_1 : foff Tryz.prog 7 1 = some 1 ∧ ftyp Tryz.prog 7 1 = some 3 := by and_intros <;> kernel_rfl
@[simp] theorem foff_7_2 : foff Tryz.prog 7 2 = some 2 ∧ ftyp Tryz.prog 7 2 = some 4 := by and_intros <;> kernel_rfl
@[simp] theorem foff_7_3 : foff Tryz.prog 7 3 = some 3 ∧ ftyp Tryz.prog 7 3 = some 6 := by and_intros <;> kernel_rfl
@[simp] theorem fplace_7 : fplace Tryz.prog 7 = some [(0, 1), (1, 1), (2, 1), (3, 1)] := by kernel_rfl
@[simp] theorem tk_8 : tk Tryz.prog 8 = .struct ∧ tsz Tryz.prog 8 = some 4 ∧ tzero Tryz.prog 8 = some ([.d (.int .i64 0), .d (.int .i64 0), .d (.bool false), .d (.int .u8 0)]) ∧ tbytes Tryz.prog 8 = some 24 ∧ tzeroD Tryz.prog 8 = some (.agg ([.int .i64 0, .int .i64 0, .bool false, .int .u8 0])) := by and_intros <;> kernel_rfl
@[simp] theorem foff_8_0 : foff Tryz.prog 8 0 = some 0 ∧ ftyp Tryz.prog 8 0 = some 2 := by and_intros <;> kernel_rfl
@[simp] theorem foff_8_1 : foff Tryz.prog 8 1 = some 1 ∧ ftyp Tryz.prog 8 1 = some 3 := by and_intros <;> kernel_rfl
@[simp] theorem foff_8_2 : foff Tryz.prog 8 2 = some 2 ∧ ftyp Tryz.prog 8 2 = some 4 := by and_intros <;> kernel_rfl
@[simp] theorem foff_8_3 : foff Tryz.prog 8 3 = some 3 ∧ ftyp Tryz.prog 8 3 = some 6 := by and_intros <;> kernel_rfl
@[simp] theorem fplace_8 : fplace Tryz.prog 8 = some [(0, 1), (1, 1), (2, 1), (3, 1)] := by kernel_rfl
@[simp] theorem tk_9 : tk Tryz.prog 9 = .str ∧ tsz Tryz.prog 9 = some 1 ∧ tzero Tryz.prog 9 = some ([.d (.str [])]) ∧ tbytes Tryz.prog 9 = some 16 ∧ tzeroD Tryz.prog 9 = some (.str []) ∧ srcTy Tryz.prog 9 = true := by and_intros <;> kernel_rfl
@[simp] theorem tk_10 : tk Tryz.prog 10 = .str ∧ tsz Tryz.prog 10 = some 1 ∧ tzero Tryz.prog 10 = some ([.d (.str [])]) ∧ tbytes Tryz.prog 10 = some 16 ∧ tzeroD Tryz.prog 10 = some (.str []) ∧ srcTy Tryz.prog 10 = true := by and_intros <;> kernel_rfl
@[simp] theorem tk_11 : tk Tryz.prog 11 = .str ∧ tsz Tryz.prog 11 = some 1 ∧ tzero Tryz.prog 11 = some ([.d (.str [])]) ∧ tbytes Tryz.prog 11 = some 16 ∧ tzeroD Tryz.prog 11 = some (.str []) ∧ srcTy Tryz.prog 11 = true := by and_intros <;> kernel_rfl
@[simp] theorem tk_12 : tk Tryz.prog 12 = .int .u64 ∧ tsz Tryz.prog 12 = some 1 ∧ tzero Tryz.prog 12 = some ([.d (.int .u64 0)]) ∧ tbytes Tryz.prog 12 = some 8 ∧ tzeroD Tryz.prog 12 = some (.int .u64 0) := by and_intros <;> kernel_rfl
@[simp] theorem tk_13 : tk Tryz.prog 13 = .struct ∧ tsz Tryz.prog 13 = some 2 ∧ tzero Tryz.prog 13 = some ([.d (.str []), .d (.int .u64 0)]) ∧ tbytes Tryz.prog 13 = some 24 ∧ tzeroD Tryz.prog 13 = some (.agg ([.str [], .int .u64 0])) := by and_intros <;> kernel_rfl
@[simp] theorem foff_13_0 : foff Tryz.prog 13 0 = some 0 ∧ ftyp Tryz.prog 13 0 = some 9 := by and_intros <;> kernel_rfl
@[simp] theorem foff_13_1 : foff Tryz.prog 13 1 = some 1 ∧ ftyp Tryz.prog 13 1 = some 12 := by and_intros <;> kernel_rfl
@[simp] theorem fplace_13 : fplace Tryz.prog 13 = some [(0, 1), (1, 1)] := by kernel_rfl
@[simp] theorem tk_14 : tk Tryz.prog 14 = .struct ∧ tsz Tryz.prog 14 = some 2 ∧ tzero Tryz.prog 14 = some ([.d (.str []), .d (.int .u64 0)]) ∧ tbytes Tryz.prog 14 = some 24 ∧ tzeroD Tryz.prog 14 = some (.agg ([.str [], .int .u64 0])) := by and_intros <;> kernel_rfl
@[simp] theorem foff_14_0 : foff Tryz.prog 14 0 = some 0 ∧ ftyp Tryz.prog 14 0 = some 9 := by and_intros <;> kernel_rfl
@[simp] theorem foff_14_1 : foff Tryz.prog 14 1 = some 1 ∧ ftyp Tryz.prog 14 1 = some 12 := by and_intros <;> kernel_rfl
@[simp] theorem fplace_14 : fplace Tryz.prog 14 = some [(0, 1), (1, 1)] := by kernel_rfl
@[simp] theorem tk_15 : tk Tryz.prog 15 = .ptr 350 ∧ tsz Tryz.prog 15 = some 1 := by and_intros <;> kernel_rfl
@[simp] theorem tk_16 : tk Tryz.prog 16 = .ptr 353 ∧ tsz Tryz.prog 16 = some 1 := by and_intros <;> kernel_rfl
@[simp] theorem tk_17 : tk Tryz.prog 17 = .ptr 361 ∧ tsz Tryz.prog 17 = some 1 := by and_intros <;> kernel_rfl
@[simp] theorem tk_18 : tk Tryz.prog 18 = .struct ∧ tsz Tryz.prog 18 = some 1 ∧ tzero Tryz.prog 18 = some ([.lit (.pointer none)]) := by and_intros <;> kernel_rfl
@[simp] theorem foff_18_0 : foff Tryz.prog 18 0 = some 0 ∧ ftyp Tryz.prog 18 0 = some 17 := by and_intros <;> kernel_rfl
@[simp] theorem fplace_18 : fplace Tryz.prog 18 = some [(0, 1)] := by kernel_rfl
@[simp] theorem tk_20 : tk Tryz.prog 20 = .iface ∧ tsz Tryz.prog 20 = some 1 := by and_intros <;> kernel_rfl
@[simp] theorem tk_21 : tk Tryz.prog 21 = .int .i32 ∧ tsz Tryz.prog 21 = some 1 ∧ tzero Tryz.prog 21 = some ([.d (.int .i32 0)]) ∧ tbytes Tryz.prog 21 = some 4 ∧ tzeroD Tryz.prog 21 = some (.int .i32 0) := by and_intros <;> kernel_rfl
@[simp] theorem tk_22 : tk Tryz.prog 22 = .slice 49 ∧ tsz Tryz.prog 22 = some 1 ∧ tzero Tryz.prog 22 = some ([.lit (.slice none 0 0)]) ∧ tbytes Tryz.prog 22 = some 24 ∧ tzeroD Tryz.prog 22 = some (.list []) ∧ srcTy Tryz.prog 22 = true := by and_intros <;> kernel_rfl
@[simp] theorem tk_23 : tk Tryz.prog 23 = .slice 121 ∧ tsz Tryz.prog 23 = some 1 ∧ tzero Tryz.prog 23 = some ([.lit (.slice none 0 0)]) ∧ tbytes Tryz.prog 23 = some 24 ∧ tzeroD Tryz.prog 23 = some (.list []) ∧ srcTy Tryz.prog 23 = true := by and_intros <;> kernel_rfl
@[simp] theorem tk_24 : tk Tryz.prog 24 = .struct ∧ tsz Tryz.prog 24 = some 3 ∧ tzero Tryz.prog 24 = some ([.d (.str []), .lit (.slice none 0 0), .lit (.slice none 0 0)]) ∧ tbytes Tryz.prog 24 = some 64 ∧ tzeroD Tryz.prog 24 = some (.agg ([.str [], .list [], .list []])) := by and_intros <;> kernel_rfl
@[simp] theorem foff_24_0 : foff Tryz.prog 24 0 = some 0 ∧ ftyp Tryz.prog 24 0 = some 9 := by and_intros <;> kernel_rfl
@[simp] theorem foff_24_1 : foff Tryz.prog 24 1 = some 1 ∧ ftyp Tryz.prog 24 1 = some 22 := by and_intros <;> kernel_rfl
@[simp] theorem foff_24_2 : foff Tryz.prog 24 2 = some 2 ∧ ftyp Tryz.prog 24 2 = some 23 := by and_intros <;> kernel_rfl
@[simp] theorem fplace_24 : fplace Tryz.prog 24 = some [(0, 1), (1, 1), (2, 1)] := by kernel_rfl
@[simp] theorem tk_25 : tk Tryz.prog 25 = .struct ∧ tsz Tryz.prog 25 = some 3 ∧ tzero Tryz.prog 25 = some ([.d (.str []), .lit (.slice none 0 0), .lit (.slice none 0 0)]) ∧ tbytes Tryz.prog 25 = some 64 ∧ tzeroD Tryz.prog 25 = some (.agg ([.str [], .list [], .list []])) := by and_intros <;> kernel_rfl
@[simp] theorem foff_25_0 : foff Tryz.prog 25 0 = some 0 ∧ ftyp Tryz.prog 25 0 = some 9 := by and_intros <;> kernel_rfl
@[simp] theorem foff_25_1 : foff Tryz.prog 25 1 = some 1 ∧ ftyp Tryz.prog 25 1 = some 22 := by and_intros <;> kernel_rfl
@[simp] theorem foff_25_2 : foff Tryz.prog 25 2 = some 2 ∧ ftyp Tryz.prog 25 2 = some 23 := by and_intros <;> kernel_rfl
@[simp] theorem fplace_25 : fplace Tryz.prog 25 = some [(0, 1), (1, 1), (2, 1)] := by kernel_rfl
@[simp] theorem tk_26 : (tk Tryz.prog 26 = .func) ∧ tsz Tryz.prog 26 = some 1 := by and_intros <;> kernel_rfl
@[simp] theorem tk_27 : (tk Tryz.prog 27 = .func) ∧ tsz Tryz.prog 27 = some 1 := by and_intros <;> kernel_rfl
@[simp] theorem tk_28 : tk Tryz.prog 28 = .struct ∧ tsz Tryz.prog 28 = some 2 ∧ tzero Tryz.prog 28 = some ([.d (.int .i64 0), .d (.int .i64 0)]) ∧ tbytes Tryz.prog 28 = some 16 ∧ tzeroD Tryz.prog 28 = some (.agg ([.int .i64 0, .int .i64 0])) := by and_intros <;> kernel_rfl
@[simp] theorem foff_28_0 : foff Tryz.prog 28 0 = some 0 ∧ ftyp Tryz.prog 28 0 = some 3 := by and_intros <;> kernel_rfl
@[simp] theorem foff_28_1 : foff Tryz.prog 28 1 = some 1 ∧ ftyp Tryz.prog 28 1 = some 3 := by and_intros <;> kernel_rfl
@[simp] theorem fplace_28 : fplace Tryz.prog 28 = some [(0, 1), (1, 1)] ∧ flatStruct Tryz.prog 28 = some [.int .i64, .int .i64] := by and_intros <;> kernel_rfl
@[simp] theorem tk_29 : tk Tryz.prog 29 = .struct ∧ tsz Tryz.prog 29 = some 2 ∧ tzero Tryz.prog 29 = some ([.d (.int .i64 0), .d (.int .i64 0)]) ∧ tbytes Tryz.prog 29 = some 16 ∧ tzeroD Tryz.prog 29 = some (.agg ([.int .i64 0, .int .i64 0])) := by and_intros <;> kernel_rfl
@[simp] theorem foff_29_0 : foff Tryz.prog 29 0 = some 0 ∧ ftyp Tryz.prog 29 0 = some 3 := by and_intros <;> kernel_rfl
@[simp] theorem foff_29_1 : foff Tryz.prog 29 1 = some 1 ∧ ftyp Tryz.prog 29 1 = some 3 := by and_intros <;> kernel_rfl
@[simp] theorem fplace_29 : fplace Tryz.prog 29 = some [(0, 1), (1, 1)] ∧ flatStruct Tryz.prog 29 = some [.int .i64, .int .i64] := by and_intros <;> kernel_rfl
@[simp] theorem tk_30 : (tk Tryz.prog 30 = .func) ∧ tsz Tryz.prog 30 = some 1 := by and_intros <;> kernel_rfl
@[simp] theorem tk_31 : tk Tryz.prog 31 = .slice 61 ∧ tsz Tryz.prog 31 = some 1 ∧ tzero Tryz.prog 31 = some ([.lit (.slice none 0 0)]) ∧ tbytes Tryz.prog 31 = some 24 ∧ tzeroD Tryz.prog 31 = some (.list []) ∧ srcTy Tryz.prog 31 = true := by and_intros <;> kernel_rfl
@[simp] theorem tk_32 : tk Tryz.prog 32 = .struct ∧ tsz Tryz.prog 32 = some 3 ∧ tzero Tryz.prog 32 = some ([.lit (.slice none 0 0), .d (.int .i64 0), .d (.int .i64 0)]) ∧ tbytes Tryz.prog 32 = some 40 ∧ tzeroD Tryz.prog 32 = some (.agg ([.list [], .int .i64 0, .int .i64 0])) := by and_intros <;> kernel_rfl
@[simp] theorem foff_32_0 : foff Tryz.prog 32 0 = some 0 ∧ ftyp Tryz.prog 32 0 = some 31 := by and_intros <;> kernel_rfl
@[simp] theorem foff_32_1 : foff Tryz.prog 32 1 = some 1 ∧ ftyp Tryz.prog 32 1 = some 3 := by and_intros <;> kernel_rfl
@[simp] theorem foff_32_2 : foff Tryz.prog 32 2 = some 2 ∧ ftyp Tryz.prog 32 2 = some 3 := by and_intros <;> kernel_rfl
@[simp] theorem fplace_32 : fplace Tryz.prog 32 = some [(0, 1), (1, 1), (2, 1)] := by kernel_rfl
@[simp] theorem tk_33 : tk Tryz.prog 33 = .struct ∧ tsz Tryz.prog 33 = some 3 ∧ tzero Tryz.prog 33 = some ([.lit (.slice none 0 0), .d (.int .i64 0), .d (.int .i64 0)]) ∧ tbytes Tryz.prog 33 = some 40 ∧ tzeroD Tryz.prog 33 = some (.agg ([.list [], .int .i64 0, .int .i64 0])) := by and_intros <;> kernel_rfl
@[simp] theorem foff_33_0 : foff Tryz.prog 33 0 = some 0 ∧ ftyp Tryz.prog 33 0 = some 31 := by and_intros <;> kernel_rfl
@[simp] theorem foff_33_1 : foff Tryz.prog 33 1 = some 1 ∧ ftyp Tryz.prog 33 1 = some 3 := by and_intros <;> kernel_rfl
@[simp] theorem foff_33_2 : foff Tryz.prog 33 2 = some 2 ∧ ftyp Tryz.prog 33 2 = some 3 := by and_intros <;> kernel_rfl
@[simp] theorem fplace_33 : fplace Tryz.prog 33 = some [(0, 1), (1, 1), (2, 1)] := by kernel_rfl
@[simp] theorem tk_34 : tk Tryz.prog 34 = .int .i64 ∧ tsz Tryz.prog 34 = some 1 ∧ tzero Tryz.prog 34 = some ([.d (.int .i64 0)]) ∧ tbytes Tryz.prog 34 = some 8 ∧ tzeroD Tryz.prog 34 = some (.int .i64 0) := by and_intros <;> kernel_rfl
@[simp] theorem tk_36 : (tk Tryz.prog 36 = .func) ∧ tsz Tryz.prog 36 = some 1 := by and_intros <;> kernel_rfl
@[simp] theorem tk_46 : (tk Tryz.prog 46 = .func) ∧ tsz Tryz.prog 46 = some 1 := by and_intros <;> kernel_rfl
@[simp] theorem tk_48 : tk Tryz.prog 48 = .struct ∧ tsz Tryz.prog 48 = some 8 ∧ tzero Tryz.prog 48 = some ([.d (.str []), .d (.int .i64 0), .d (.int .i64 0), .d (.bool false), .d (.int .i64 0), .d (.int .i64 0), .d (.int .i64 0), .d (.int .i64 0)]) ∧ tbytes Tryz.prog 48 = some 72 ∧ tzeroD Tryz.prog 48 = some (.agg ([.str [], .int .i64 0, .int .i64 0, .bool false, .int .i64 0, .int .i64 0, .int .i64 0, .int .i64 0])) := by and_intros <;> kernel_rfl
@[simp] theorem foff_48_0 : foff Tryz.prog 48 0 = some 0 ∧ ftyp Tryz.prog 48 0 = some 9 := by and_intros <;> kernel_rfl
@[simp] theorem foff_48_1 : foff Tryz.prog 48 1 = some 1 ∧ ftyp Tryz.prog 48 1 = some 3 := by and_intros <;> kernel_rfl
@[simp] theorem foff_48_2 : foff Tryz.prog 48 2 = some 2 ∧ ftyp Tryz.prog 48 2 = some 3 := by and_intros <;> kernel_rfl
@[simp] theorem foff_48_3 : foff Tryz.prog 48 3 = some 3 ∧ ftyp Tryz.prog 48 3 = some 4 := by and_intros <;> kernel_rfl
@[simp] theorem foff_48_4 : foff Tryz.prog 48 4 = some 4 ∧ ftyp Tryz.prog 48 4 = some 2 := by and_intros <;> kernel_rfl
@[simp] theorem foff_48_5 : foff Tryz.prog 48 5 = some 5 ∧ ftyp Tryz.prog 48 5 = some 2 := by and_intros <;> kernel_rfl
@[simp] theorem foff_48_6 : foff Tryz.prog 48 6 = some 6 ∧ ftyp Tryz.prog 48 6 = some 2 := by and_intros <;> kernel_rfl
@[simp] theorem foff_48_7 : foff Tryz.prog 48 7 = some 7 ∧ ftyp Tryz.prog 48 7 = some 3 := by and_intros <;> kernel_rfl
@[simp] theorem fplace_48 : fplace Tryz.prog 48 = some [(0, 1), (1, 1), (2, 1), (3, 1), (4, 1), (5, 1), (6, 1), (7, 1)] ∧ flatStruct Tryz.prog 48 = some [.str, .int .i64, .int .i64, .bool, .int .i64, .int .i64, .int .i64, .int .i64] := by and_intros <;> kernel_rfl
@[simp] theorem tk_49 : tk Tryz.prog 49 = .struct ∧ tsz Tryz.prog 49 = some 8 ∧ tzero Tryz.prog 49 = some ([.d (.str []), .d (.int .i64 0), .d (.int .i64 0), .d (.bool false), .d (.int .i64 0), .d (.int .i64 0), .d (.int .i64 0), .d (.int .i64 0)]) ∧ tbytes Tryz.prog 49 = some 72 ∧ tzeroD Tryz.prog 49 = some (.agg ([.str [], .int .i64 0, .int .i64 0, .bool false, .int .i64 0, .int .i64 0, .int .i64 0, .int .i64 0])) := by and_intros <;> kernel_rfl
@[simp] theorem foff_49_0 : foff Tryz.prog 49 0 = some 0 ∧ ftyp Tryz.prog 49 0 = some 9 := by and_intros <;> kernel_rfl
@[simp] theorem foff_49_1 : foff Tryz.prog 49 1 = some 1 ∧ ftyp Tryz.prog 49 1 = some 3 := by and_intros <;> kernel_rfl
@[simp] theorem foff_49_2 : foff Tryz.prog 49 2 = some 2 ∧ ftyp Tryz.prog 49 2 = some 3 := by and_intros <;> kernel_rfl
@[simp] theorem foff_49_3 : foff Tryz.prog 49 3 = some 3 ∧ ftyp Tryz.prog 49 3 = some 4 := by and_intros <;> kernel_rfl
@[simp] theorem foff_49_4 : foff Tryz.prog 49 4 = some 4 ∧ ftyp Tryz.prog 49 4 = some 2 := by and_intros <;> kernel_rfl
@[simp] theorem foff_49_5 : foff Tryz.prog 49 5 = some 5 ∧ ftyp Tryz.prog 49 5 = some 2 := by and_intros <;> kernel_rfl
@[simp] theorem foff_49_6 : foff Tryz.prog 49 6 = some 6 ∧ ftyp Tryz.prog 49 6 = some 2 := by and_intros <;> kernel_rfl
@[simp] theorem foff_49_7 : foff Tryz.prog 49 7 = some 7 ∧ ftyp Tryz.prog 49 7 = some 3 := by and_intros <;> kernel_rfl
@[simp] theorem fplace_49 : fplace Tryz.prog 49 = some [(0, 1), (1, 1), (2, 1), (3, 1), (4, 1), (5, 1), (6, 1), (7, 1)] ∧ flatStruct Tryz.prog 49 = some [.str, .int .i64, .int .i64, .bool, .int .i64, .int .i64, .int .i64, .int .i64] := by and_intros <;> kernel_rfl
@[simp] theorem tk_51 : tk Tryz.prog 51 = .slice 2 ∧ tsz Tryz.prog 51 = some 1 ∧ tzero Tryz.prog 51 = some ([.lit (.slice none 0 0)]) ∧ tbytes Tryz.prog 51 = some 24 ∧ tzeroD Tryz.prog 51 = some (.list []) ∧ srcTy Tryz.prog 51 = true := by and_intros <;> kernel_rfl
@[simp] theorem tk_57 : (tk Tryz.prog 57 = .func) ∧ tsz Tryz.prog 57 = some 1 := by and_intros <;> kernel_rfl
@[simp] theorem tk_60 : tk Tryz.prog 60 = .struct ∧ tsz Tryz.prog 60 = some 5 ∧ tzero Tryz.prog 60 = some ([.d (.int .i64 0), .d (.int .i64 0), .d (.int .i64 0), .d (.int .i64 0), .d (.int .i64 0)]) ∧ tbytes Tryz.prog 60 = some 40 ∧ tzeroD Tryz.prog 60 = some (.agg ([.int .i64 0, .int .i64 0, .int .i64 0, .int .i64 0, .int .i64 0])) := by and_intros <;> kernel_rfl
@[simp] theorem foff_60_0 : foff Tryz.prog 60 0 = some 0 ∧ ftyp Tryz.prog 60 0 = some 3 := by and_intros <;> kernel_rfl
@[simp] theorem foff_60_1 : foff Tryz.prog 60 1 = some 1 ∧ ftyp Tryz.prog 60 1 = some 3 := by and_intros <;> kernel_rfl
@[simp] theorem foff_60_2 : foff Tryz.prog 60 2 = some 2 ∧ ftyp Tryz.prog 60 2 = some 3 := by and_intros <;> kernel_rfl
@[simp] theorem foff_60_3 : foff Tryz.prog 60 3 = some 3 ∧ ftyp Tryz.prog 60 3 = some 2 := by and_intros <;> kernel_rfl
@[simp] theorem foff_60_4 : foff Tryz.prog 60 4 = some 4 ∧ ftyp Tryz.prog 60 4 = some 2 := by and_intros <;> kernel_rfl
@[simp] theorem fplace_60 : fplace Tryz.prog 60 = some [(0, 1), (1, 1), (2, 1), (3, 1), (4, 1)] ∧ flatStruct Tryz.prog 60 = some [.int .i64, .int .i64, .int .i64, .int .i64, .int .i64] := by and_intros <;> kernel_rfl
@[simp] theorem tk_61 : tk Tryz.prog 61 = .struct ∧ tsz Tryz.prog 61 = some 5 ∧ tzero Tryz.prog 61 = some ([.d (.int .i64 0), .d (.int .i64 0), .d (.int .i64 0), .d (.int .i64 0), .d (.int .i64 0)]) ∧ tbytes Tryz.prog 61 = some 40 ∧ tzeroD Tryz.prog 61 = some (.agg ([.int .i64 0, .int .i64 0, .int .i64 0, .int .i64 0, .int .i64 0])) := by and_intros <;> kernel_rfl
@[simp] theorem foff_61_0 : foff Tryz.prog 61 0 = some 0 ∧ ftyp Tryz.prog 61 0 = some 3 := by and_intros <;> kernel_rfl
@[simp] theorem foff_61_1 : foff Tryz.prog 61 1 = some 1 ∧ ftyp Tryz.prog 61 1 = some 3 := by and_intros <;> kernel_rfl
@[simp] theorem foff_61_2 : foff Tryz.prog 61 2 = some 2 ∧ ftyp Tryz.prog 61 2 = some 3 := by and_intros <;> kernel_rfl
@[simp] theorem foff_61_3 : foff Tryz.prog 61 3 = some 3 ∧ ftyp Tryz.prog 61 3 = some 2 := by and_intros <;> kernel_rfl
@[simp] theorem foff_61_4 : foff Tryz.prog 61 4 = some 4 ∧ ftyp Tryz.prog 61 4 = some 2 := by and_intros <;> kernel_rfl
@[simp] theorem fplace_61 : fplace Tryz.prog 61 = some [(0, 1), (1, 1), (2, 1), (3, 1), (4, 1)] ∧ flatStruct Tryz.prog 61 = some [.int .i64, .int .i64, .int .i64, .int .i64, .int .i64] := by and_intros <;> kernel_rfl
@[simp] theorem tk_64 : (tk Tryz.prog 64 = .func) ∧ tsz Tryz.prog 64 = some 1 := by and_intros <;> kernel_rfl
@[simp] theorem tk_65 : (tk Tryz.prog 65 = .func) ∧ tsz Tryz.prog 65 = some 1 := by and_intros <;> kernel_rfl
@[simp] theorem tk_69 : (tk Tryz.prog 69 = .func) ∧ tsz Tryz.prog 69 = some 1 := by and_intros <;> kernel_rfl
@[simp] theorem tk_70 : (tk Tryz.prog 70 = .func) ∧ tsz Tryz.prog 70 = some 1 := by and_intros <;> kernel_rfl
@[simp] theorem tk_73 : (tk Tryz.prog 73 = .func) ∧ tsz Tryz.prog 73 = some 1 := by and_intros <;> kernel_rfl
@[simp] theorem tk_75 : tk Tryz.prog 75 = .slice 3 ∧ tsz Tryz.prog 75 = some 1 ∧ tzero Tryz.prog 75 = some ([.lit (.slice none 0 0)]) ∧ tbytes Tryz.prog 75 = some 24 ∧ tzeroD Tryz.prog 75 = some (.list []) ∧ srcTy Tryz.prog 75 = true := by and_intros <;> kernel_rfl
@[simp] theorem tk_90 : (tk Tryz.prog 90 = .func) ∧ tsz Tryz.prog 90 = some 1 := by and_intros <;> kernel_rfl
@[simp] theorem tk_95 : (tk Tryz.prog 95 = .func) ∧ tsz Tryz.prog 95 = some 1 := by and_intros <;> kernel_rfl
@[simp] theorem tk_97 : (tk Tryz.prog 97 = .func) ∧ tsz Tryz.prog 97 = some 1 := by and_intros <;> kernel_rfl
@[simp] theorem tk_99 : (tk Tryz.prog 99 = .func) ∧ tsz Tryz.prog 99 = some 1 := by and_intros <;> kernel_rfl
@[simp] theorem tk_100 : (tk Tryz.prog 100 = .func) ∧ tsz Tryz.prog 100 = some 1 := by and_intros <;> kernel_rfl
@[simp] theorem tk_101 : tk Tryz.prog 101 = .int .u16 ∧ tsz Tryz.prog 101 = some 1 ∧ tzero Tryz.prog 101 = some ([.d (.int .u16 0)]) ∧ tbytes Tryz.prog 101 = some 2 ∧ tzeroD Tryz.prog 101 = some (.int .u16 0) := by and_intros <;> kernel_rfl
@[simp] theorem tk_103 : tk Tryz.prog 103 = .struct ∧ tsz Tryz.prog 103 = some 5 ∧ tzero Tryz.prog 103 = some ([.d (.int .i64 0), .d (.str []), .d (.int .i64 0), .d (.int .i64 0), .d (.int .i64 0)]) ∧ tbytes Tryz.prog 103 = some 48 ∧ tzeroD Tryz.prog 103 = some (.agg ([.int .i64 0, .str [], .int .i64 0, .int .i64 0, .int .i64 0])) := by and_intros <;> kernel_rfl
@[simp] theorem foff_103_0 : foff Tryz.prog 103 0 = some 0 ∧ ftyp Tryz.prog 103 0 = some 3 := by and_intros <;> kernel_rfl
@[simp] theorem foff_103_1 : foff Tryz.prog 103 1 = some 1 ∧ ftyp Tryz.prog 103 1 = some 9 := by and_intros <;> kernel_rfl
@[simp] theorem foff_103_2 : foff Tryz.prog 103 2 = some 2 ∧ ftyp Tryz.prog 103 2 = some 2 := by and_intros <;> kernel_rfl
@[simp] theorem foff_103_3 : foff Tryz.prog 103 3 = some 3 ∧ ftyp Tryz.prog 103 3 = some 3 := by and_intros <;> kernel_rfl
@[simp] theorem foff_103_4 : foff Tryz.prog 103 4 = some 4 ∧ ftyp Tryz.prog 103 4 = some 3 := by and_intros <;> kernel_rfl
@[simp] theorem fplace_103 : fplace Tryz.prog 103 = some [(0, 1), (1, 1), (2, 1), (3, 1), (4, 1)] ∧ flatStruct Tryz.prog 103 = some [.int .i64, .str, .int .i64, .int .i64, .int .i64] := by and_intros <;> kernel_rfl
@[simp] theorem tk_104 : tk Tryz.prog 104 = .struct ∧ tsz Tryz.prog 104 = some 5 ∧ tzero Tryz.prog 104 = some ([.d (.int .i64 0), .d (.str []), .d (.int .i64 0), .d (.int .i64 0), .d (.int .i64 0)]) ∧ tbytes Tryz.prog 104 = some 48 ∧ tzeroD Tryz.prog 104 = some (.agg ([.int .i64 0, .str [], .int .i64 0, .int .i64 0, .int .i64 0])) := by and_intros <;> kernel_rfl
@[simp] theorem foff_104_0 : foff Tryz.prog 104 0 = some 0 ∧ ftyp Tryz.prog 104 0 = some 3 := by and_intros <;> kernel_rfl
@[simp] theorem foff_104_1 : foff Tryz.prog 104 1 = some 1 ∧ ftyp Tryz.prog 104 1 = some 9 := by and_intros <;> kernel_rfl
@[simp] theorem foff_104_2 : foff Tryz.prog 104 2 = some 2 ∧ ftyp Tryz.prog 104 2 = some 2 := by and_intros <;> kernel_rfl
@[simp] theorem foff_104_3 : foff Tryz.prog 104 3 = some 3 ∧ ftyp Tryz.prog 104 3 = some 3 := by and_intros <;> kernel_rfl
@[simp] theorem foff_104_4 : foff Tryz.prog 104 4 = some 4 ∧ ftyp Tryz.prog 104 4 = some 3 := by and_intros <;> kernel_rfl
@[simp] theorem fplace_104 : fplace Tryz.prog 104 = some [(0, 1), (1, 1), (2, 1), (3, 1), (4, 1)] ∧ flatStruct Tryz.prog 104 = some [.int .i64, .str, .int .i64, .int .i64, .int .i64] := by and_intros <;> kernel_rfl
@[simp] theorem tk_108 : tk Tryz.prog 108 = .ptr 34 ∧ tsz Tryz.prog 108 = some 1 := by and_intros <;> kernel_rfl
@[simp] theorem tk_109 : tk Tryz.prog 109 = .ptr 3 ∧ tsz Tryz.prog 109 = some 1 := by and_intros <;> kernel_rfl
@[simp] theorem tk_110 : tk Tryz.prog 110 = .ptr 112 ∧ tsz Tryz.prog 110 = some 1 := by and_intros <;> kernel_rfl
@[simp] theorem tk_111 : tk Tryz.prog 111 = .struct ∧ tsz Tryz.prog 111 = some 2 ∧ tzero Tryz.prog 111 = some ([.lit (.slice none 0 0), .d (.int .i64 0)]) ∧ tbytes Tryz.prog 111 = some 32 ∧ tzeroD Tryz.prog 111 = some (.agg ([.list [], .int .i64 0])) := by and_intros <;> kernel_rfl
@[simp] theorem foff_111_0 : foff Tryz.prog 111 0 = some 0 ∧ ftyp Tryz.prog 111 0 = some 22 := by and_intros <;> kernel_rfl
@[simp] theorem foff_111_1 : foff Tryz.prog 111 1 = some 1 ∧ ftyp Tryz.prog 111 1 = some 3 := by and_intros <;> kernel_rfl
@[simp] theorem fplace_111 : fplace Tryz.prog 111 = some [(0, 1), (1, 1)] := by kernel_rfl
@[simp] theorem tk_112 : tk Tryz.prog 112 = .struct ∧ tsz Tryz.prog 112 = some 2 ∧ tzero Tryz.prog 112 = some ([.lit (.slice none 0 0), .d (.int .i64 0)]) ∧ tbytes Tryz.prog 112 = some 32 ∧ tzeroD Tryz.prog 112 = some (.agg ([.list [], .int .i64 0])) := by and_intros <;> kernel_rfl
@[simp] theorem foff_112_0 : foff Tryz.prog 112 0 = some 0 ∧ ftyp Tryz.prog 112 0 = some 22 := by and_intros <;> kernel_rfl
@[simp] theorem foff_112_1 : foff Tryz.prog 112 1 = some 1 ∧ ftyp Tryz.prog 112 1 = some 3 := by and_intros <;> kernel_rfl
@[simp] theorem fplace_112 : fplace Tryz.prog 112 = some [(0, 1), (1, 1)] := by kernel_rfl
@[simp] theorem tk_114 : tk Tryz.prog 114 = .slice 116 ∧ tsz Tryz.prog 114 = some 1 ∧ tzero Tryz.prog 114 = some ([.lit (.slice none 0 0)]) ∧ tbytes Tryz.prog 114 = some 24 ∧ tzeroD Tryz.prog 114 = some (.list []) ∧ srcTy Tryz.prog 114 = true := by and_intros <;> kernel_rfl
@[simp] theorem tk_115 : tk Tryz.prog 115 = .struct ∧ tsz Tryz.prog 115 = some 6 ∧ tzero Tryz.prog 115 = some ([.d (.int .i64 0), .d (.int .i64 0), .d (.str []), .d (.str []), .lit (.slice none 0 0), .d (.int .i64 0)]) ∧ tbytes Tryz.prog 115 = some 80 ∧ tzeroD Tryz.prog 115 = some (.agg ([.int .i64 0, .int .i64 0, .str [], .str [], .list [], .int .i64 0])) := by and_intros <;> kernel_rfl
@[simp] theorem foff_115_0 : foff Tryz.prog 115 0 = some 0 ∧ ftyp Tryz.prog 115 0 = some 3 := by and_intros <;> kernel_rfl
@[simp] theorem foff_115_1 : foff Tryz.prog 115 1 = some 1 ∧ ftyp Tryz.prog 115 1 = some 2 := by and_intros <;> kernel_rfl
@[simp] theorem foff_115_2 : foff Tryz.prog 115 2 = some 2 ∧ ftyp Tryz.prog 115 2 = some 9 := by and_intros <;> kernel_rfl
@[simp] theorem foff_115_3 : foff Tryz.prog 115 3 = some 3 ∧ ftyp Tryz.prog 115 3 = some 9 := by and_intros <;> kernel_rfl
@[simp] theorem foff_115_4 : foff Tryz.prog 115 4 = some 4 ∧ ftyp Tryz.prog 115 4 = some 114 := by and_intros <;> kernel_rfl
@[simp] theorem foff_115_5 : foff Tryz.prog 115 5 = some 5 ∧ ftyp Tryz.prog 115 5 = some 3 := by and_intros <;> kernel_rfl
@[simp] theorem fplace_115 : fplace Tryz.prog 115 = some [(0, 1), (1, 1), (2, 1), (3, 1), (4, 1), (5, 1)] := by kernel_rfl
@[simp] theorem tk_116 : tk Tryz.prog 116 = .struct ∧ tsz Tryz.prog 116 = some 6 ∧ tzero Tryz.prog 116 = some ([.d (.int .i64 0), .d (.int .i64 0), .d (.str []), .d (.str []), .lit (.slice none 0 0), .d (.int .i64 0)]) ∧ tbytes Tryz.prog 116 = some 80 ∧ tzeroD Tryz.prog 116 = some (.agg ([.int .i64 0, .int .i64 0, .str [], .str [], .list [], .int .i64 0])) := by and_intros <;> kernel_rfl
@[simp] theorem foff_116_0 : foff Tryz.prog 116 0 = some 0 ∧ ftyp Tryz.prog 116 0 = some 3 := by and_intros <;> kernel_rfl
@[simp] theorem foff_116_1 : foff Tryz.prog 116 1 = some 1 ∧ ftyp Tryz.prog 116 1 = some 2 := by and_intros <;> kernel_rfl
@[simp] theorem foff_116_2 : foff Tryz.prog 116 2 = some 2 ∧ ftyp Tryz.prog 116 2 = some 9 := by and_intros <;> kernel_rfl
@[simp] theorem foff_116_3 : foff Tryz.prog 116 3 = some 3 ∧ ftyp Tryz.prog 116 3 = some 9 := by and_intros <;> kernel_rfl
@[simp] theorem foff_116_4 : foff Tryz.prog 116 4 = some 4 ∧ ftyp Tryz.prog 116 4 = some 114 := by and_intros <;> kernel_rfl
@[simp] theorem foff_116_5 : foff Tryz.prog 116 5 = some 5 ∧ ftyp Tryz.prog 116 5 = some 3 := by and_intros <;> kernel_rfl
@[simp] theorem fplace_116 : fplace Tryz.prog 116 = some [(0, 1), (1, 1), (2, 1), (3, 1), (4, 1), (5, 1)] := by kernel_rfl
@[simp] theorem tk_117 : tk Tryz.prog 117 = .slice 51 ∧ tsz Tryz.prog 117 = some 1 ∧ tzero Tryz.prog 117 = some ([.lit (.slice none 0 0)]) ∧ tbytes Tryz.prog 117 = some 24 ∧ tzeroD Tryz.prog 117 = some (.list []) ∧ srcTy Tryz.prog 117 = true := by and_intros <;> kernel_rfl
@[simp] theorem tk_118 : tk Tryz.prog 118 = .slice 9 ∧ tsz Tryz.prog 118 = some 1 ∧ tzero Tryz.prog 118 = some ([.lit (.slice none 0 0)]) ∧ tbytes Tryz.prog 118 = some 24 ∧ tzeroD Tryz.prog 118 = some (.list []) ∧ srcTy Tryz.prog 118 = true := by and_intros <;> kernel_rfl
@[simp] theorem tk_119 : tk Tryz.prog 119 = .slice 23 ∧ tsz Tryz.prog 119 = some 1 ∧ tzero Tryz.prog 119 = some ([.lit (.slice none 0 0)]) ∧ tbytes Tryz.prog 119 = some 24 ∧ tzeroD Tryz.prog 119 = some (.list []) ∧ srcTy Tryz.prog 119 = true := by and_intros <;> kernel_rfl
@[simp] theorem tk_120 : tk Tryz.prog 120 = .struct ∧ tsz Tryz.prog 120 = some 19 ∧ tzero Tryz.prog 120 = some ([.d (.int .i64 0), .d (.str []), .d (.int .i64 0), .d (.int .i64 0), .d (.str []), .d (.str []), .lit (.slice none 0 0), .d (.int .i64 0), .d (.int .i64 0), .d (.int .i64 0), .d (.str []), .d (.str []), .lit (.slice none 0 0), .d (.int .i64 0), .lit (.slice none 0 0), .lit (.slice none 0 0), .lit (.slice none 0 0), .lit (.slice none 0 0), .d (.int .i64 0)]) ∧ tbytes Tryz.prog 120 = some 288 ∧ tzeroD Tryz.prog 120 = some (.agg ([.int .i64 0, .str [], .int .i64 0, .int .i64 0, .str [], .str [], .list [], .int .i64 0, .int .i64 0, .int .i64 0, .str [], .str [], .list [], .int .i64 0, .list [], .list [], .list [], .list [], .int .i64 0])) := by and_intros <;> kernel_rfl
@[simp] theorem foff_120_0 : foff Tryz.prog 120 0 = some 0 ∧ ftyp Tryz.prog 120 0 = some 3 := by and_intros <;> kernel_rfl
@[simp] theorem foff_120_1 : foff Tryz.prog 120 1 = some 1 ∧ ftyp Tryz.prog 120 1 = some 9 := by and_intros <;> kernel_rfl
@[simp] theorem foff_120_2 : foff Tryz.prog 120 2 = some 2 ∧ ftyp Tryz.prog 120 2 = some 116 := by and_intros <;> kernel_rfl
@[simp] theorem foff_120_3 : foff Tryz.prog 120 3 = some 8 ∧ ftyp Tryz.prog 120 3 = some 116 := by and_intros <;> kernel_rfl
@[simp] theorem foff_120_4 : foff Tryz.prog 120 4 = some 14 ∧ ftyp Tryz.prog 120 4 = some 114 := by and_intros <;> kernel_rfl
@[simp] theorem foff_120_5 : foff Tryz.prog 120 5 = some 15 ∧ ftyp Tryz.prog 120 5 = some 117 := by and_intros <;> kernel_rfl
@[simp] theorem foff_120_6 : foff Tryz.prog 120 6 = some 16 ∧ ftyp Tryz.prog 120 6 = some 118 := by and_intros <;> kernel_rfl
@[simp] theorem foff_120_7 : foff Tryz.prog 120 7 = some 17 ∧ ftyp Tryz.prog 120 7 = some 119 := by and_intros <;> kernel_rfl
@[simp] theorem foff_120_8 : foff Tryz.prog 120 8 = some 18 ∧ ftyp Tryz.prog 120 8 = some 3 := by and_intros <;> kernel_rfl
@[simp] theorem fplace_120 : fplace Tryz.prog 120 = some [(0, 1), (1, 1), (2, 6), (8, 6), (14, 1), (15, 1), (16, 1), (17, 1), (18, 1)] := by kernel_rfl
@[simp] theorem tk_121 : tk Tryz.prog 121 = .struct ∧ tsz Tryz.prog 121 = some 19 ∧ tzero Tryz.prog 121 = some ([.d (.int .i64 0), .d (.str []), .d (.int .i64 0), .d (.int .i64 0), .d (.str []), .d (.str []), .lit (.slice none 0 0), .d (.int .i64 0), .d (.int .i64 0), .d (.int .i64 0), .d (.str []), .d (.str []), .lit (.slice none 0 0), .d (.int .i64 0), .lit (.slice none 0 0), .lit (.slice none 0 0), .lit (.slice none 0 0), .lit (.slice none 0 0), .d (.int .i64 0)]) ∧ tbytes Tryz.prog 121 = some 288 ∧ tzeroD Tryz.prog 121 = some (.agg ([.int .i64 0, .str [], .int .i64 0, .int .i64 0, .str [], .str [], .list [], .int .i64 0, .int .i64 0, .int .i64 0, .str [], .str [], .list [], .int .i64 0, .list [], .list [], .list [], .list [], .int .i64 0])) := by and_intros <;> kernel_rfl
@[simp] theorem foff_121_0 : foff Tryz.prog 121 0 = some 0 ∧ ftyp Tryz.prog 121 0 = some 3 := by and_intros <;> kernel_rfl
@[simp] theorem foff_121_1 : foff Tryz.prog 121 1 = some 1 ∧ ftyp Tryz.prog 121 1 = some 9 := by and_intros <;> kernel_rfl
@[simp] theorem foff_121_2 : foff Tryz.prog 121 2 = some 2 ∧ ftyp Tryz.prog 121 2 = some 116 := by and_intros <;> kernel_rfl
@[simp] theorem foff_121_3 : foff Tryz.prog 121 3 = some 8 ∧ ftyp Tryz.prog 121 3 = some 116 := by and_intros <;> kernel_rfl
@[simp] theorem foff_121_4 : foff Tryz.prog 121 4 = some 14 ∧ ftyp Tryz.prog 121 4 = some 114 := by and_intros <;> kernel_rfl
@[simp] theorem foff_121_5 : foff Tryz.prog 121 5 = some 15 ∧ ftyp Tryz.prog 121 5 = some 117 := by and_intros <;> kernel_rfl
@[simp] theorem foff_121_6 : foff Tryz.prog 121 6 = some 16 ∧ ftyp Tryz.prog 121 6 = some 118 := by and_intros <;> kernel_rfl
@[simp] theorem foff_121_7 : foff Tryz.prog 121 7 = some 17 ∧ ftyp Tryz.prog 121 7 = some 119 := by and_intros <;> kernel_rfl
@[simp] theorem foff_121_8 : foff Tryz.prog 121 8 = some 18 ∧ ftyp Tryz.prog 121 8 = some 3 := by and_intros <;> kernel_rfl
@[simp] theorem fplace_121 : fplace Tryz.prog 121 = some [(0, 1), (1, 1), (2, 6), (8, 6), (14, 1), (15, 1), (16, 1), (17, 1), (18, 1)] := by kernel_rfl
@[simp] theorem tk_122 : (tk Tryz.prog 122 = .func) ∧ tsz Tryz.prog 122 = some 1 := by and_intros <;> kernel_rfl
@[simp] theorem tk_126 : tk Tryz.prog 126 = .arr 64 2 ∧ tsz Tryz.prog 126 = some 64 ∧ tzero Tryz.prog 126 = some (List.replicate 64 (.d (.int .i64 0))) ∧ tbytes Tryz.prog 126 = some 512 ∧ tzeroD Tryz.prog 126 = some (.agg (List.replicate 64 (.int .i64 0))) ∧ fplace Tryz.prog 126 = none := by and_intros <;> kernel_rfl
@[simp] theorem tk_127 : tk Tryz.prog 127 = .struct ∧ tsz Tryz.prog 127 = some 72 ∧ tzero Tryz.prog 127 = some ([.lit (.slice none 0 0), .d (.int .i64 0), .d (.int .i64 0), .lit (.slice none 0 0), .d (.int .i64 0), .d (.int .i64 0), .d (.int .i64 0), .d (.int .i64 0), .d (.int .i64 0), .d (.int .i64 0), .d (.int .i64 0), .d (.int .i64 0), .d (.int .i64 0), .d (.int .i64 0), .d (.int .i64 0), .d (.int .i64 0), .d (.int .i64 0), .d (.int .i64 0), .d (.int .i64 0), .d (.int .i64 0), .d (.int .i64 0), .d (.int .i64 0), .d (.int .i64 0), .d (.int .i64 0), .d (.int .i64 0), .d (.int .i64 0), .d (.int .i64 0), .d (.int .i64 0), .d (.int .i64 0), .d (.int .i64 0), .d (.int .i64 0), .d (.int .i64 0), .d (.int .i64 0), .d (.int .i64 0), .d (.int .i64 0), .d (.int .i64 0), .d (.int .i64 0), .d (.int .i64 0), .d (.int .i64 0), .d (.int .i64 0), .d (.int .i64 0), .d (.int .i64 0), .d (.int .i64 0), .d (.int .i64 0), .d (.int .i64 0), .d (.int .i64 0), .d (.int .i64 0), .d (.int .i64 0), .d (.int .i64 0), .d (.int .i64 0), .d (.int .i64 0), .d (.int .i64 0), .d (.int .i64 0), .d (.int .i64 0), .d (.int .i64 0), .d (.int .i64 0), .d (.int .i64 0), .d (.int .i64 0), .d (.int .i64 0), .d (.int .i64 0), .d (.int .i64 0), .d (.int .i64 0), .d (.int .i64 0), .d (.int .i64 0), .d (.int .i64 0), .d (.int .i64 0), .d (.int .i64 0), .d (.int .i64 0), .d (.int .i64 0), .d (.int .i64 0), .d (.int .i64 0), .d (.int .i64 0)]) ∧ tbytes Tryz.prog 127 = some 608 ∧ tzeroD Tryz.prog 127 = some (.agg ([.list [], .int .i64 0, .int .i64 0, .list [], .int .i64 0, .int .i64 0, .int .i64 0, .int .i64 0, .int .i64 0, .int .i64 0, .int .i64 0, .int .i64 0, .int .i64 0, .int .i64 0, .int .i64 0, .int .i64 0, .int .i64 0, .int .i64 0, .int .i64 0, .int .i64 0, .int .i64 0, .int .i64 0, .int .i64 0, .int .i64 0, .int .i64 0, .int .i64 0, .int .i64 0, .int .i64 0, .int .i64 0, .int .i64 0, .int .i64 0, .int .i64 0, .int .i64 0, .int .i64 0, .int .i64 0, .int .i64 0, .int .i64 0, .int .i64 0, .int .i64 0, .int .i64 0, .int .i64 0, .int .i64 0, .int .i64 0, .int .i64 0, .int .i64 0, .int .i64 0, .int .i64 0, .int .i64 0, .int .i64 0, .int .i64 0, .int .i64 0, .int .i64 0, .int .i64 0, .int .i64 0, .int .i64 0, .int .i64 0, .int .i64 0, .int .i64 0, .int .i64 0, .int .i64 0, .int .i64 0, .int .i64 0, .int .i64 0, .int .i64 0, .int .i64 0, .int .i64 0, .int .i64 0, .int .i64 0, .int .i64 0, .int .i64 0, .int .i64 0, .int .i64 0])) := by and_intros <;> kernel_rfl
@[simp] theorem foff_127_0 : foff Tryz.prog 127 0 = some 0 ∧ ftyp Tryz.prog 127 0 = some 33 := by and_intros <;> kernel_rfl
@[simp] theorem foff_127_1 : foff Tryz.prog 127 1 = some 3 ∧ ftyp Tryz.prog 127 1 = some 51 := by and_intros <;> kernel_rfl
@[simp] theorem foff_127_2 : foff Tryz.prog 127 2 = some 4 ∧ ftyp Tryz.prog 127 2 = some 126 := by and_intros <;> kernel_rfl
@[simp] theorem foff_127_3 : foff Tryz.prog 127 3 = some 68 ∧ ftyp Tryz.prog 127 3 = some 3 := by and_intros <;> kernel_rfl
@[simp] theorem foff_127_4 : foff Tryz.prog 127 4 = some 69 ∧ ftyp Tryz.prog 127 4 = some 3 := by and_intros <;> kernel_rfl
@[simp] theorem foff_127_5 : foff Tryz.prog 127 5 = some 70 ∧ ftyp Tryz.prog 127 5 = some 3 := by and_intros <;> kernel_rfl
@[simp] theorem foff_127_6 : foff Tryz.prog 127 6 = some 71 ∧ ftyp Tryz.prog 127 6 = some 3 := by and_intros <;> kernel_rfl
@[simp] theorem fplace_127 : fplace Tryz.prog 127 = some [(0, 3), (3, 1), (4, 64), (68, 1), (69, 1), (70, 1), (71, 1)] := by kernel_rfl
@[simp] theorem tk_128 : tk Tryz.prog 128 = .struct ∧ tsz Tryz.prog 128 = some 72 ∧ tzero Tryz.prog 128 = some ([.lit (.slice none 0 0), .d (.int .i64 0), .d (.int .i64 0), .lit (.slice none 0 0), .d (.int .i64 0), .d (.int .i64 0), .d (.int .i64 0), .d (.int .i64 0), .d (.int .i64 0), .d (.int .i64 0), .d (.int .i64 0), .d (.int .i64 0), .d (.int .i64 0), .d (.int .i64 0), .d (.int .i64 0), .d (.int .i64 0), .d (.int .i64 0), .d (.int .i64 0), .d (.int .i64 0), .d (.int .i64 0), .d (.int .i64 0), .d (.int .i64 0), .d (.int .i64 0), .d (.int .i64 0), .d (.int .i64 0), .d (.int .i64 0), .d (.int .i64 0), .d (.int .i64 0), .d (.int .i64 0), .d (.int .i64 0), .d (.int .i64 0), .d (.int .i64 0), .d (.int .i64 0), .d (.int .i64 0), .d (.int .i64 0), .d (.int .i64 0), .d (.int .i64 0), .d (.int .i64 0), .d (.int .i64 0), .d (.int .i64 0), .d (.int .i64 0), .d (.int .i64 0), .d (.int .i64 0), .d (.int .i64 0), .d (.int .i64 0), .d (.int .i64 0), .d (.int .i64 0), .d (.int .i64 0), .d (.int .i64 0), .d (.int .i64 0), .d (.int .i64 0), .d (.int .i64 0), .d (.int .i64 0), .d (.int .i64 0), .d (.int .i64 0), .d (.int .i64 0), .d (.int .i64 0), .d (.int .i64 0), .d (.int .i64 0), .d (.int .i64 0), .d (.int .i64 0), .d (.int .i64 0), .d (.int .i64 0), .d (.int .i64 0), .d (.int .i64 0), .d (.int .i64 0), .d (.int .i64 0), .d (.int .i64 0), .d (.int .i64 0), .d (.int .i64 0), .d (.int .i64 0), .d (.int .i64 0)]) ∧ tbytes Tryz.prog 128 = some 608 ∧ tzeroD Tryz.prog 128 = some (.agg ([.list [], .int .i64 0, .int .i64 0, .list [], .int .i64 0, .int .i64 0, .int .i64 0, .int .i64 0, .int .i64 0, .int .i64 0, .int .i64 0, .int .i64 0, .int .i64 0, .int .i64 0, .int .i64 0, .int .i64 0, .int .i64 0, .int .i64 0, .int .i64 0, .int .i64 0, .int .i64 0, .int .i64 0, .int .i64 0, .int .i64 0, .int .i64 0, .int .i64 0, .int .i64 0, .int .i64 0, .int .i64 0, .int .i64 0, .int .i64 0, .int .i64 0, .int .i64 0, .int .i64 0, .int .i64 0, .int .i64 0, .int .i64 0, .int .i64 0, .int .i64 0, .int .i64 0, .int .i64 0, .int .i64 0, .int .i64 0, .int .i64 0, .int .i64 0, .int .i64 0, .int .i64 0, .int .i64 0, .int .i64 0, .int .i64 0, .int .i64 0, .int .i64 0, .int .i64 0, .int .i64 0, .int .i64 0, .int .i64 0, .int .i64 0, .int .i64 0, .int .i64 0, .int .i64 0, .int .i64 0, .int .i64 0, .int .i64 0, .int .i64 0, .int .i64 0, .int .i64 0, .int .i64 0, .int .i64 0, .int .i64 0, .int .i64 0, .int .i64 0, .int .i64 0])) := by and_intros <;> kernel_rfl
@[simp] theorem foff_128_0 : foff Tryz.prog 128 0 = some 0 ∧ ftyp Tryz.prog 128 0 = some 33 := by and_intros <;> kernel_rfl
@[simp] theorem foff_128_1 : foff Tryz.prog 128 1 = some 3 ∧ ftyp Tryz.prog 128 1 = some 51 := by and_intros <;> kernel_rfl
@[simp] theorem foff_128_2 : foff Tryz.prog 128 2 = some 4 ∧ ftyp Tryz.prog 128 2 = some 126 := by and_intros <;> kernel_rfl
@[simp] theorem foff_128_3 : foff Tryz.prog 128 3 = some 68 ∧ ftyp Tryz.prog 128 3 = some 3 := by and_intros <;> kernel_rfl
@[simp] theorem foff_128_4 : foff Tryz.prog 128 4 = some 69 ∧ ftyp Tryz.prog 128 4 = some 3 := by and_intros <;> kernel_rfl
@[simp] theorem foff_128_5 : foff Tryz.prog 128 5 = some 70 ∧ ftyp Tryz.prog 128 5 = some 3 := by and_intros <;> kernel_rfl
@[simp] theorem foff_128_6 : foff Tryz.prog 128 6 = some 71 ∧ ftyp Tryz.prog 128 6 = some 3 := by and_intros <;> kernel_rfl
@[simp] theorem fplace_128 : fplace Tryz.prog 128 = some [(0, 3), (3, 1), (4, 64), (68, 1), (69, 1), (70, 1), (71, 1)] := by kernel_rfl
@[simp] theorem tk_131 : tk Tryz.prog 131 = .slice 134 ∧ tsz Tryz.prog 131 = some 1 ∧ tzero Tryz.prog 131 = some ([.lit (.slice none 0 0)]) ∧ tbytes Tryz.prog 131 = some 24 ∧ tzeroD Tryz.prog 131 = some (.list []) ∧ srcTy Tryz.prog 131 = true := by and_intros <;> kernel_rfl
@[simp] theorem tk_132 : tk Tryz.prog 132 = .struct ∧ tsz Tryz.prog 132 = some 7 ∧ tzero Tryz.prog 132 = some ([.d (.str []), .lit (.slice none 0 0), .lit (.slice none 0 0), .lit (.slice none 0 0), .lit (.slice none 0 0), .lit (.slice none 0 0), .d (.int .i64 0)]) ∧ tbytes Tryz.prog 132 = some 144 ∧ tzeroD Tryz.prog 132 = some (.agg ([.str [], .list [], .list [], .list [], .list [], .list [], .int .i64 0])) := by and_intros <;> kernel_rfl
@[simp] theorem foff_132_0 : foff Tryz.prog 132 0 = some 0 ∧ ftyp Tryz.prog 132 0 = some 25 := by and_intros <;> kernel_rfl
@[simp] theorem foff_132_1 : foff Tryz.prog 132 1 = some 3 ∧ ftyp Tryz.prog 132 1 = some 75 := by and_intros <;> kernel_rfl
@[simp] theorem foff_132_2 : foff Tryz.prog 132 2 = some 4 ∧ ftyp Tryz.prog 132 2 = some 131 := by and_intros <;> kernel_rfl
@[simp] theorem foff_132_3 : foff Tryz.prog 132 3 = some 5 ∧ ftyp Tryz.prog 132 3 = some 51 := by and_intros <;> kernel_rfl
@[simp] theorem foff_132_4 : foff Tryz.prog 132 4 = some 6 ∧ ftyp Tryz.prog 132 4 = some 3 := by and_intros <;> kernel_rfl
@[simp] theorem fplace_132 : fplace Tryz.prog 132 = some [(0, 3), (3, 1), (4, 1), (5, 1), (6, 1)] := by kernel_rfl
@[simp] theorem tk_133 : tk Tryz.prog 133 = .struct ∧ tsz Tryz.prog 133 = some 7 ∧ tzero Tryz.prog 133 = some ([.d (.str []), .lit (.slice none 0 0), .lit (.slice none 0 0), .lit (.slice none 0 0), .lit (.slice none 0 0), .lit (.slice none 0 0), .d (.int .i64 0)]) ∧ tbytes Tryz.prog 133 = some 144 ∧ tzeroD Tryz.prog 133 = some (.agg ([.str [], .list [], .list [], .list [], .list [], .list [], .int .i64 0])) := by and_intros <;> kernel_rfl
@[simp] theorem foff_133_0 : foff Tryz.prog 133 0 = some 0 ∧ ftyp Tryz.prog 133 0 = some 25 := by and_intros <;> kernel_rfl
@[simp] theorem foff_133_1 : foff Tryz.prog 133 1 = some 3 ∧ ftyp Tryz.prog 133 1 = some 75 := by and_intros <;> kernel_rfl
@[simp] theorem foff_133_2 : foff Tryz.prog 133 2 = some 4 ∧ ftyp Tryz.prog 133 2 = some 131 := by and_intros <;> kernel_rfl
@[simp] theorem foff_133_3 : foff Tryz.prog 133 3 = some 5 ∧ ftyp Tryz.prog 133 3 = some 51 := by and_intros <;> kernel_rfl
@[simp] theorem foff_133_4 : foff Tryz.prog 133 4 = some 6 ∧ ftyp Tryz.prog 133 4 = some 3 := by and_intros <;> kernel_rfl
@[simp] theorem fplace_133 : fplace Tryz.prog 133 = some [(0, 3), (3, 1), (4, 1), (5, 1), (6, 1)] := by kernel_rfl
@[simp] theorem tk_134 : tk Tryz.prog 134 = .slice 191 ∧ tsz Tryz.prog 134 = some 1 ∧ tzero Tryz.prog 134 = some ([.lit (.slice none 0 0)]) ∧ tbytes Tryz.prog 134 = some 24 ∧ tzeroD Tryz.prog 134 = some (.list []) ∧ srcTy Tryz.prog 134 = true := by and_intros <;> kernel_rfl
@[simp] theorem tk_145 : tk Tryz.prog 145 = .slice 148 ∧ tsz Tryz.prog 145 = some 1 ∧ tzero Tryz.prog 145 = some ([.lit (.slice none 0 0)]) ∧ tbytes Tryz.prog 145 = some 24 ∧ tzeroD Tryz.prog 145 = some (.list []) ∧ srcTy Tryz.prog 145 = true := by and_intros <;> kernel_rfl
@[simp] theorem tk_147 : tk Tryz.prog 147 = .struct ∧ tsz Tryz.prog 147 = some 4 ∧ tzero Tryz.prog 147 = some ([.d (.int .i64 0), .d (.str []), .d (.str []), .lit (.slice none 0 0)]) ∧ tbytes Tryz.prog 147 = some 64 ∧ tzeroD Tryz.prog 147 = some (.agg ([.int .i64 0, .str [], .str [], .list []])) := by and_intros <;> kernel_rfl
@[simp] theorem foff_147_0 : foff Tryz.prog 147 0 = some 0 ∧ ftyp Tryz.prog 147 0 = some 3 := by and_intros <;> kernel_rfl
@[simp] theorem foff_147_1 : foff Tryz.prog 147 1 = some 1 ∧ ftyp Tryz.prog 147 1 = some 9 := by and_intros <;> kernel_rfl
@[simp] theorem foff_147_2 : foff Tryz.prog 147 2 = some 2 ∧ ftyp Tryz.prog 147 2 = some 9 := by and_intros <;> kernel_rfl
@[simp] theorem foff_147_3 : foff Tryz.prog 147 3 = some 3 ∧ ftyp Tryz.prog 147 3 = some 118 := by and_intros <;> kernel_rfl
@[simp] theorem fplace_147 : fplace Tryz.prog 147 = some [(0, 1), (1, 1), (2, 1), (3, 1)] := by kernel_rfl
@[simp] theorem tk_148 : tk Tryz.prog 148 = .struct ∧ tsz Tryz.prog 148 = some 4 ∧ tzero Tryz.prog 148 = some ([.d (.int .i64 0), .d (.str []), .d (.str []), .lit (.slice none 0 0)]) ∧ tbytes Tryz.prog 148 = some 64 ∧ tzeroD Tryz.prog 148 = some (.agg ([.int .i64 0, .str [], .str [], .list []])) := by and_intros <;> kernel_rfl
@[simp] theorem foff_148_0 : foff Tryz.prog 148 0 = some 0 ∧ ftyp Tryz.prog 148 0 = some 3 := by and_intros <;> kernel_rfl
@[simp] theorem foff_148_1 : foff Tryz.prog 148 1 = some 1 ∧ ftyp Tryz.prog 148 1 = some 9 := by and_intros <;> kernel_rfl
@[simp] theorem foff_148_2 : foff Tryz.prog 148 2 = some 2 ∧ ftyp Tryz.prog 148 2 = some 9 := by and_intros <;> kernel_rfl
@[simp] theorem foff_148_3 : foff Tryz.prog 148 3 = some 3 ∧ ftyp Tryz.prog 148 3 = some 118 := by and_intros <;> kernel_rfl
@[simp] theorem fplace_148 : fplace Tryz.prog 148 = some [(0, 1), (1, 1), (2, 1), (3, 1)] := by kernel_rfl
@[simp] theorem tk_158 : tk Tryz.prog 158 = .int .u64 ∧ tsz Tryz.prog 158 = some 1 ∧ tzero Tryz.prog 158 = some ([.d (.int .u64 0)]) ∧ tbytes Tryz.prog 158 = some 8 ∧ tzeroD Tryz.prog 158 = some (.int .u64 0) := by and_intros <;> kernel_rfl
@[simp] theorem tk_160 : (tk Tryz.prog 160 = .func) ∧ tsz Tryz.prog 160 = some 1 := by and_intros <;> kernel_rfl
@[simp] theorem tk_163 : tk Tryz.prog 163 = .slice 104 ∧ tsz Tryz.prog 163 = some 1 ∧ tzero Tryz.prog 163 = some ([.lit (.slice none 0 0)]) ∧ tbytes Tryz.prog 163 = some 24 ∧ tzeroD Tryz.prog 163 = some (.list []) ∧ srcTy Tryz.prog 163 = true := by and_intros <;> kernel_rfl
@[simp] theorem tk_166 : tk Tryz.prog 166 = .struct ∧ tsz Tryz.prog 166 = some 6 ∧ tzero Tryz.prog 166 = some ([.d (.int .i64 0), .d (.int .i64 0), .d (.str []), .d (.int .i64 0), .d (.int .i64 0), .d (.int .i64 0)]) ∧ tbytes Tryz.prog 166 = some 56 ∧ tzeroD Tryz.prog 166 = some (.agg ([.int .i64 0, .int .i64 0, .str [], .int .i64 0, .int .i64 0, .int .i64 0])) := by and_intros <;> kernel_rfl
@[simp] theorem foff_166_0 : foff Tryz.prog 166 0 = some 0 ∧ ftyp Tryz.prog 166 0 = some 34 := by and_intros <;> kernel_rfl
@[simp] theorem foff_166_1 : foff Tryz.prog 166 1 = some 1 ∧ ftyp Tryz.prog 166 1 = some 104 := by and_intros <;> kernel_rfl
@[simp] theorem fplace_166 : fplace Tryz.prog 166 = some [(0, 1), (1, 5)] ∧ flatStruct Tryz.prog 166 = some [.int .i64, .int .i64, .str, .int .i64, .int .i64, .int .i64] := by and_intros <;> kernel_rfl
@[simp] theorem tk_167 : tk Tryz.prog 167 = .struct ∧ tsz Tryz.prog 167 = some 6 ∧ tzero Tryz.prog 167 = some ([.d (.int .i64 0), .d (.int .i64 0), .d (.str []), .d (.int .i64 0), .d (.int .i64 0), .d (.int .i64 0)]) ∧ tbytes Tryz.prog 167 = some 56 ∧ tzeroD Tryz.prog 167 = some (.agg ([.int .i64 0, .int .i64 0, .str [], .int .i64 0, .int .i64 0, .int .i64 0])) := by and_intros <;> kernel_rfl
@[simp] theorem foff_167_0 : foff Tryz.prog 167 0 = some 0 ∧ ftyp Tryz.prog 167 0 = some 34 := by and_intros <;> kernel_rfl
@[simp] theorem foff_167_1 : foff Tryz.prog 167 1 = some 1 ∧ ftyp Tryz.prog 167 1 = some 104 := by and_intros <;> kernel_rfl
@[simp] theorem fplace_167 : fplace Tryz.prog 167 = some [(0, 1), (1, 5)] ∧ flatStruct Tryz.prog 167 = some [.int .i64, .int .i64, .str, .int .i64, .int .i64, .int .i64] := by and_intros <;> kernel_rfl
@[simp] theorem tk_169 : tk Tryz.prog 169 = .ptr 171 ∧ tsz Tryz.prog 169 = some 1 := by and_intros <;> kernel_rfl
@[simp] theorem tk_170 : tk Tryz.prog 170 = .struct ∧ tsz Tryz.prog 170 = some 4 ∧ tzero Tryz.prog 170 = some ([.lit (.slice none 0 0), .d (.int .i64 0), .d (.int .i64 0), .lit (.slice none 0 0)]) ∧ tbytes Tryz.prog 170 = some 64 ∧ tzeroD Tryz.prog 170 = some (.agg ([.list [], .int .i64 0, .int .i64 0, .list []])) := by and_intros <;> kernel_rfl
@[simp] theorem foff_170_0 : foff Tryz.prog 170 0 = some 0 ∧ ftyp Tryz.prog 170 0 = some 163 := by and_intros <;> kernel_rfl
@[simp] theorem foff_170_1 : foff Tryz.prog 170 1 = some 1 ∧ ftyp Tryz.prog 170 1 = some 3 := by and_intros <;> kernel_rfl
@[simp] theorem foff_170_2 : foff Tryz.prog 170 2 = some 2 ∧ ftyp Tryz.prog 170 2 = some 3 := by and_intros <;> kernel_rfl
@[simp] theorem foff_170_3 : foff Tryz.prog 170 3 = some 3 ∧ ftyp Tryz.prog 170 3 = some 22 := by and_intros <;> kernel_rfl
@[simp] theorem fplace_170 : fplace Tryz.prog 170 = some [(0, 1), (1, 1), (2, 1), (3, 1)] := by kernel_rfl
@[simp] theorem tk_171 : tk Tryz.prog 171 = .struct ∧ tsz Tryz.prog 171 = some 4 ∧ tzero Tryz.prog 171 = some ([.lit (.slice none 0 0), .d (.int .i64 0), .d (.int .i64 0), .lit (.slice none 0 0)]) ∧ tbytes Tryz.prog 171 = some 64 ∧ tzeroD Tryz.prog 171 = some (.agg ([.list [], .int .i64 0, .int .i64 0, .list []])) := by and_intros <;> kernel_rfl
@[simp] theorem foff_171_0 : foff Tryz.prog 171 0 = some 0 ∧ ftyp Tryz.prog 171 0 = some 163 := by and_intros <;> kernel_rfl
@[simp] theorem foff_171_1 : foff Tryz.prog 171 1 = some 1 ∧ ftyp Tryz.prog 171 1 = some 3 := by and_intros <;> kernel_rfl
@[simp] theorem foff_171_2 : foff Tryz.prog 171 2 = some 2 ∧ ftyp Tryz.prog 171 2 = some 3 := by and_intros <;> kernel_rfl
@[simp] theorem foff_171_3 : foff Tryz.prog 171 3 = some 3 ∧ ftyp Tryz.prog 171 3 = some 22 := by and_intros <;> kernel_rfl
@[simp] theorem fplace_171 : fplace Tryz.prog 171 = some [(0, 1), (1, 1), (2, 1), (3, 1)] := by kernel_rfl
@[simp] theorem tk_173 : tk Tryz.prog 173 = .struct ∧ tsz Tryz.prog 173 = some 2 ∧ tzero Tryz.prog 173 = some ([.d (.int .i64 0), .d (.int .i64 0)]) ∧ tbytes Tryz.prog 173 = some 16 ∧ tzeroD Tryz.prog 173 = some (.agg ([.int .i64 0, .int .i64 0])) := by and_intros <;> kernel_rfl
@[simp] theorem foff_173_0 : foff Tryz.prog 173 0 = some 0 ∧ ftyp Tryz.prog 173 0 = some 34 := by and_intros <;> kernel_rfl
@[simp] theorem foff_173_1 : foff Tryz.prog 173 1 = some 1 ∧ ftyp Tryz.prog 173 1 = some 3 := by and_intros <;> kernel_rfl
@[simp] theorem fplace_173 : fplace Tryz.prog 173 = some [(0, 1), (1, 1)] ∧ flatStruct Tryz.prog 173 = some [.int .i64, .int .i64] := by and_intros <;> kernel_rfl
@[simp] theorem tk_174 : tk Tryz.prog 174 = .struct ∧ tsz Tryz.prog 174 = some 2 ∧ tzero Tryz.prog 174 = some ([.d (.int .i64 0), .d (.int .i64 0)]) ∧ tbytes Tryz.prog 174 = some 16 ∧ tzeroD Tryz.prog 174 = some (.agg ([.int .i64 0, .int .i64 0])) := by and_intros <;> kernel_rfl
@[simp] theorem foff_174_0 : foff Tryz.prog 174 0 = some 0 ∧ ftyp Tryz.prog 174 0 = some 34 := by and_intros <;> kernel_rfl
@[simp] theorem foff_174_1 : foff Tryz.prog 174 1 = some 1 ∧ ftyp Tryz.prog 174 1 = some 3 := by and_intros <;> kernel_rfl
@[simp] theorem fplace_174 : fplace Tryz.prog 174 = some [(0, 1), (1, 1)] ∧ flatStruct Tryz.prog 174 = some [.int .i64, .int .i64] := by and_intros <;> kernel_rfl
@[simp] theorem tk_178 : (tk Tryz.prog 178 = .func) ∧ tsz Tryz.prog 178 = some 1 := by and_intros <;> kernel_rfl
@[simp] theorem tk_185 : tk Tryz.prog 185 = .struct ∧ tsz Tryz.prog 185 = some 5 ∧ tzero Tryz.prog 185 = some ([.d (.int .i64 0), .d (.str []), .d (.str []), .d (.str []), .d (.int .i64 0)]) ∧ tbytes Tryz.prog 185 = some 64 ∧ tzeroD Tryz.prog 185 = some (.agg ([.int .i64 0, .str [], .str [], .str [], .int .i64 0])) := by and_intros <;> kernel_rfl
@[simp] theorem foff_185_0 : foff Tryz.prog 185 0 = some 0 ∧ ftyp Tryz.prog 185 0 = some 3 := by and_intros <;> kernel_rfl
@[simp] theorem foff_185_1 : foff Tryz.prog 185 1 = some 1 ∧ ftyp Tryz.prog 185 1 = some 9 := by and_intros <;> kernel_rfl
@[simp] theorem foff_185_2 : foff Tryz.prog 185 2 = some 2 ∧ ftyp Tryz.prog 185 2 = some 9 := by and_intros <;> kernel_rfl
@[simp] theorem foff_185_3 : foff Tryz.prog 185 3 = some 3 ∧ ftyp Tryz.prog 185 3 = some 9 := by and_intros <;> kernel_rfl
@[simp] theorem foff_185_4 : foff Tryz.prog 185 4 = some 4 ∧ ftyp Tryz.prog 185 4 = some 3 := by and_intros <;> kernel_rfl
@[simp] theorem fplace_185 : fplace Tryz.prog 185 = some [(0, 1), (1, 1), (2, 1), (3, 1), (4, 1)] ∧ flatStruct Tryz.prog 185 = some [.int .i64, .str, .str, .str, .int .i64] := by and_intros <;> kernel_rfl
@[simp] theorem tk_186 : tk Tryz.prog 186 = .struct ∧ tsz Tryz.prog 186 = some 5 ∧ tzero Tryz.prog 186 = some ([.d (.int .i64 0), .d (.str []), .d (.str []), .d (.str []), .d (.int .i64 0)]) ∧ tbytes Tryz.prog 186 = some 64 ∧ tzeroD Tryz.prog 186 = some (.agg ([.int .i64 0, .str [], .str [], .str [], .int .i64 0])) := by and_intros <;> kernel_rfl
@[simp] theorem foff_186_0 : foff Tryz.prog 186 0 = some 0 ∧ ftyp Tryz.prog 186 0 = some 3 := by and_intros <;> kernel_rfl
@[simp] theorem foff_186_1 : foff Tryz.prog 186 1 = some 1 ∧ ftyp Tryz.prog 186 1 = some 9 := by and_intros <;> kernel_rfl
@[simp] theorem foff_186_2 : foff Tryz.prog 186 2 = some 2 ∧ ftyp Tryz.prog 186 2 = some 9 := by and_intros <;> kernel_rfl
@[simp] theorem foff_186_3 : foff Tryz.prog 186 3 = some 3 ∧ ftyp Tryz.prog 186 3 = some 9 := by and_intros <;> kernel_rfl
@[simp] theorem foff_186_4 : foff Tryz.prog 186 4 = some 4 ∧ ftyp Tryz.prog 186 4 = some 3 := by and_intros <;> kernel_rfl
@[simp] theorem fplace_186 : fplace Tryz.prog 186 = some [(0, 1), (1, 1), (2, 1), (3, 1), (4, 1)] ∧ flatStruct Tryz.prog 186 = some [.int .i64, .str, .str, .str, .int .i64] := by and_intros <;> kernel_rfl
@[simp] theorem tk_190 : tk Tryz.prog 190 = .struct ∧ tsz Tryz.prog 190 = some 3 ∧ tzero Tryz.prog 190 = some ([.d (.str []), .d (.int .i64 0), .d (.bool false)]) ∧ tbytes Tryz.prog 190 = some 32 ∧ tzeroD Tryz.prog 190 = some (.agg ([.str [], .int .i64 0, .bool false])) := by and_intros <;> kernel_rfl
@[simp] theorem foff_190_0 : foff Tryz.prog 190 0 = some 0 ∧ ftyp Tryz.prog 190 0 = some 9 := by and_intros <;> kernel_rfl
@[simp] theorem foff_190_1 : foff Tryz.prog 190 1 = some 1 ∧ ftyp Tryz.prog 190 1 = some 3 := by and_intros <;> kernel_rfl
@[simp] theorem foff_190_2 : foff Tryz.prog 190 2 = some 2 ∧ ftyp Tryz.prog 190 2 = some 4 := by and_intros <;> kernel_rfl
@[simp] theorem fplace_190 : fplace Tryz.prog 190 = some [(0, 1), (1, 1), (2, 1)] ∧ flatStruct Tryz.prog 190 = some [.str, .int .i64, .bool] := by and_intros <;> kernel_rfl
@[simp] theorem tk_191 : tk Tryz.prog 191 = .struct ∧ tsz Tryz.prog 191 = some 3 ∧ tzero Tryz.prog 191 = some ([.d (.str []), .d (.int .i64 0), .d (.bool false)]) ∧ tbytes Tryz.prog 191 = some 32 ∧ tzeroD Tryz.prog 191 = some (.agg ([.str [], .int .i64 0, .bool false])) := by and_intros <;> kernel_rfl
@[simp] theorem foff_191_0 : foff Tryz.prog 191 0 = some 0 ∧ ftyp Tryz.prog 191 0 = some 9 := by and_intros <;> kernel_rfl
@[simp] theorem foff_191_1 : foff Tryz.prog 191 1 = some 1 ∧ ftyp Tryz.prog 191 1 = some 3 := by and_intros <;> kernel_rfl
@[simp] theorem foff_191_2 : foff Tryz.prog 191 2 = some 2 ∧ ftyp Tryz.prog 191 2 = some 4 := by and_intros <;> kernel_rfl
@[simp] theorem fplace_191 : fplace Tryz.prog 191 = some [(0, 1), (1, 1), (2, 1)] ∧ flatStruct Tryz.prog 191 = some [.str, .int .i64, .bool] := by and_intros <;> kernel_rfl
@[simp] theorem tk_198 : tk Tryz.prog 198 = .slice 114 ∧ tsz Tryz.prog 198 = some 1 ∧ tzero Tryz.prog 198 = some ([.lit (.slice none 0 0)]) ∧ tbytes Tryz.prog 198 = some 24 ∧ tzeroD Tryz.prog 198 = some (.list []) ∧ srcTy Tryz.prog 198 = true := by and_intros <;> kernel_rfl
@[simp] theorem tk_211 : tk Tryz.prog 211 = .ptr 213 ∧ tsz Tryz.prog 211 = some 1 := by and_intros <;> kernel_rfl
@[simp] theorem tk_212 : tk Tryz.prog 212 = .struct ∧ tsz Tryz.prog 212 = some 4 ∧ tzero Tryz.prog 212 = some ([.d (.str []), .d (.int .i64 0), .d (.int .i64 0), .d (.int .i64 0)]) ∧ tbytes Tryz.prog 212 = some 40 ∧ tzeroD Tryz.prog 212 = some (.agg ([.str [], .int .i64 0, .int .i64 0, .int .i64 0])) := by and_intros <;> kernel_rfl
@[simp] theorem foff_212_0 : foff Tryz.prog 212 0 = some 0 ∧ ftyp Tryz.prog 212 0 = some 9 := by and_intros <;> kernel_rfl
@[simp] theorem foff_212_1 : foff Tryz.prog 212 1 = some 1 ∧ ftyp Tryz.prog 212 1 = some 3 := by and_intros <;> kernel_rfl
@[simp] theorem foff_212_2 : foff Tryz.prog 212 2 = some 2 ∧ ftyp Tryz.prog 212 2 = some 3 := by and_intros <;> kernel_rfl
@[simp] theorem foff_212_3 : foff Tryz.prog 212 3 = some 3 ∧ ftyp Tryz.prog 212 3 = some 3 := by and_intros <;> kernel_rfl
@[simp] theorem fplace_212 : fplace Tryz.prog 212 = some [(0, 1), (1, 1), (2, 1), (3, 1)] ∧ flatStruct Tryz.prog 212 = some [.str, .int .i64, .int .i64, .int .i64] := by and_intros <;> kernel_rfl
@[simp] theorem tk_213 : tk Tryz.prog 213 = .struct ∧ tsz Tryz.prog 213 = some 4 ∧ tzero Tryz.prog 213 = some ([.d (.str []), .d (.int .i64 0), .d (.int .i64 0), .d (.int .i64 0)]) ∧ tbytes Tryz.prog 213 = some 40 ∧ tzeroD Tryz.prog 213 = some (.agg ([.str [], .int .i64 0, .int .i64 0, .int .i64 0])) := by and_intros <;> kernel_rfl
@[simp] theorem foff_213_0 : foff Tryz.prog 213 0 = some 0 ∧ ftyp Tryz.prog 213 0 = some 9 := by and_intros <;> kernel_rfl
@[simp] theorem foff_213_1 : foff Tryz.prog 213 1 = some 1 ∧ ftyp Tryz.prog 213 1 = some 3 := by and_intros <;> kernel_rfl
@[simp] theorem foff_213_2 : foff Tryz.prog 213 2 = some 2 ∧ ftyp Tryz.prog 213 2 = some 3 := by and_intros <;> kernel_rfl
@[simp] theorem foff_213_3 : foff Tryz.prog 213 3 = some 3 ∧ ftyp Tryz.prog 213 3 = some 3 := by and_intros <;> kernel_rfl
@[simp] theorem fplace_213 : fplace Tryz.prog 213 = some [(0, 1), (1, 1), (2, 1), (3, 1)] ∧ flatStruct Tryz.prog 213 = some [.str, .int .i64, .int .i64, .int .i64] := by and_intros <;> kernel_rfl
@[simp] theorem tk_226 : tk Tryz.prog 226 = .slice 186 ∧ tsz Tryz.prog 226 = some 1 ∧ tzero Tryz.prog 226 = some ([.lit (.slice none 0 0)]) ∧ tbytes Tryz.prog 226 = some 24 ∧ tzeroD Tryz.prog 226 = some (.list []) ∧ srcTy Tryz.prog 226 = true := by and_intros <;> kernel_rfl
@[simp] theorem tk_229 : (tk Tryz.prog 229 = .func) ∧ tsz Tryz.prog 229 = some 1 := by and_intros <;> kernel_rfl
@[simp] theorem tk_255 : (tk Tryz.prog 255 = .func) ∧ tsz Tryz.prog 255 = some 1 := by and_intros <;> kernel_rfl
@[simp] theorem tk_256 : (tk Tryz.prog 256 = .func) ∧ tsz Tryz.prog 256 = some 1 := by and_intros <;> kernel_rfl
@[simp] theorem tk_271 : tk Tryz.prog 271 = .arr 256 5 ∧ tsz Tryz.prog 271 = some 256 ∧ tzero Tryz.prog 271 = some (List.replicate 256 (.d (.int .u8 0))) ∧ tbytes Tryz.prog 271 = some 256 ∧ tzeroD Tryz.prog 271 = some (.agg (List.replicate 256 (.int .u8 0))) ∧ fplace Tryz.prog 271 = none := by and_intros <;> kernel_rfl
@[simp] theorem tk_273 : (tk Tryz.prog 273 = .func) ∧ tsz Tryz.prog 273 = some 1 := by and_intros <;> kernel_rfl
@[simp] theorem tk_288 : (tk Tryz.prog 288 = .func) ∧ tsz Tryz.prog 288 = some 1 := by and_intros <;> kernel_rfl
@[simp] theorem tk_289 : tk Tryz.prog 289 = .struct ∧ tsz Tryz.prog 289 = some 2 ∧ tzero Tryz.prog 289 = some ([.d (.str []), .d (.int .i64 0)]) ∧ tbytes Tryz.prog 289 = some 24 ∧ tzeroD Tryz.prog 289 = some (.agg ([.str [], .int .i64 0])) := by and_intros <;> kernel_rfl
@[simp] theorem foff_289_0 : foff Tryz.prog 289 0 = some 0 ∧ ftyp Tryz.prog 289 0 = some 9 := by and_intros <;> kernel_rfl
@[simp] theorem foff_289_1 : foff Tryz.prog 289 1 = some 1 ∧ ftyp Tryz.prog 289 1 = some 2 := by and_intros <;> kernel_rfl
@[simp] theorem fplace_289 : fplace Tryz.prog 289 = some [(0, 1), (1, 1)] ∧ flatStruct Tryz.prog 289 = some [.str, .int .i64] := by and_intros <;> kernel_rfl
@[simp] theorem tk_290 : tk Tryz.prog 290 = .slice 289 ∧ tsz Tryz.prog 290 = some 1 ∧ tzero Tryz.prog 290 = some ([.lit (.slice none 0 0)]) ∧ tbytes Tryz.prog 290 = some 24 ∧ tzeroD Tryz.prog 290 = some (.list []) ∧ srcTy Tryz.prog 290 = true := by and_intros <;> kernel_rfl
@[simp] theorem tk_292 : tk Tryz.prog 292 = .struct ∧ tsz Tryz.prog 292 = some 9 ∧ tzero Tryz.prog 292 = some ([.d (.int .i64 0), .d (.str []), .d (.int .i64 0), .d (.int .i64 0), .d (.int .i64 0), .d (.int .i64 0), .d (.bool false), .d (.int .i64 0), .d (.int .i64 0)]) ∧ tbytes Tryz.prog 292 = some 80 ∧ tzeroD Tryz.prog 292 = some (.agg ([.int .i64 0, .str [], .int .i64 0, .int .i64 0, .int .i64 0, .int .i64 0, .bool false, .int .i64 0, .int .i64 0])) := by and_intros <;> kernel_rfl
@[simp] theorem foff_292_0 : foff Tryz.prog 292 0 = some 0 ∧ ftyp Tryz.prog 292 0 = some 104 := by and_intros <;> kernel_rfl
@[simp] theorem foff_292_1 : foff Tryz.prog 292 1 = some 5 ∧ ftyp Tryz.prog 292 1 = some 3 := by and_intros <;> kernel_rfl
@[simp] theorem foff_292_2 : foff Tryz.prog 292 2 = some 6 ∧ ftyp Tryz.prog 292 2 = some 4 := by and_intros <;> kernel_rfl
@[simp] theorem foff_292_3 : foff Tryz.prog 292 3 = some 7 ∧ ftyp Tryz.prog 292 3 = some 2 := by and_intros <;> kernel_rfl
@[simp] theorem foff_292_4 : foff Tryz.prog 292 4 = some 8 ∧ ftyp Tryz.prog 292 4 = some 2 := by and_intros <;> kernel_rfl
@[simp] theorem fplace_292 : fplace Tryz.prog 292 = some [(0, 5), (5, 1), (6, 1), (7, 1), (8, 1)] ∧ flatStruct Tryz.prog 292 = some [.int .i64, .str, .int .i64, .int .i64, .int .i64, .int .i64, .bool, .int .i64, .int .i64] := by and_intros <;> kernel_rfl
@[simp] theorem tk_293 : tk Tryz.prog 293 = .struct ∧ tsz Tryz.prog 293 = some 9 ∧ tzero Tryz.prog 293 = some ([.d (.int .i64 0), .d (.str []), .d (.int .i64 0), .d (.int .i64 0), .d (.int .i64 0), .d (.int .i64 0), .d (.bool false), .d (.int .i64 0), .d (.int .i64 0)]) ∧ tbytes Tryz.prog 293 = some 80 ∧ tzeroD Tryz.prog 293 = some (.agg ([.int .i64 0, .str [], .int .i64 0, .int .i64 0, .int .i64 0, .int .i64 0, .bool false, .int .i64 0, .int .i64 0])) := by and_intros <;> kernel_rfl
@[simp] theorem foff_293_0 : foff Tryz.prog 293 0 = some 0 ∧ ftyp Tryz.prog 293 0 = some 104 := by and_intros <;> kernel_rfl
@[simp] theorem foff_293_1 : foff Tryz.prog 293 1 = some 5 ∧ ftyp Tryz.prog 293 1 = some 3 := by and_intros <;> kernel_rfl
@[simp] theorem foff_293_2 : foff Tryz.prog 293 2 = some 6 ∧ ftyp Tryz.prog 293 2 = some 4 := by and_intros <;> kernel_rfl
@[simp] theorem foff_293_3 : foff Tryz.prog 293 3 = some 7 ∧ ftyp Tryz.prog 293 3 = some 2 := by and_intros <;> kernel_rfl
@[simp] theorem foff_293_4 : foff Tryz.prog 293 4 = some 8 ∧ ftyp Tryz.prog 293 4 = some 2 := by and_intros <;> kernel_rfl
@[simp] theorem fplace_293 : fplace Tryz.prog 293 = some [(0, 5), (5, 1), (6, 1), (7, 1), (8, 1)] ∧ flatStruct Tryz.prog 293 = some [.int .i64, .str, .int .i64, .int .i64, .int .i64, .int .i64, .bool, .int .i64, .int .i64] := by and_intros <;> kernel_rfl
@[simp] theorem tk_302 : tk Tryz.prog 302 = .slice 304 ∧ tsz Tryz.prog 302 = some 1 ∧ tzero Tryz.prog 302 = some ([.lit (.slice none 0 0)]) ∧ tbytes Tryz.prog 302 = some 24 ∧ tzeroD Tryz.prog 302 = some (.list []) ∧ srcTy Tryz.prog 302 = true := by and_intros <;> kernel_rfl
@[simp] theorem tk_303 : tk Tryz.prog 303 = .struct ∧ tsz Tryz.prog 303 = some 2 ∧ tzero Tryz.prog 303 = some ([.d (.int .i64 0), .d (.int .i64 0)]) ∧ tbytes Tryz.prog 303 = some 16 ∧ tzeroD Tryz.prog 303 = some (.agg ([.int .i64 0, .int .i64 0])) := by and_intros <;> kernel_rfl
@[simp] theorem foff_303_0 : foff Tryz.prog 303 0 = some 0 ∧ ftyp Tryz.prog 303 0 = some 3 := by and_intros <;> kernel_rfl
@[simp] theorem foff_303_1 : foff Tryz.prog 303 1 = some 1 ∧ ftyp Tryz.prog 303 1 = some 3 := by and_intros <;> kernel_rfl
@[simp] theorem fplace_303 : fplace Tryz.prog 303 = some [(0, 1), (1, 1)] ∧ flatStruct Tryz.prog 303 = some [.int .i64, .int .i64] := by and_intros <;> kernel_rfl
@[simp] theorem tk_304 : tk Tryz.prog 304 = .struct ∧ tsz Tryz.prog 304 = some 2 ∧ tzero Tryz.prog 304 = some ([.d (.int .i64 0), .d (.int .i64 0)]) ∧ tbytes Tryz.prog 304 = some 16 ∧ tzeroD Tryz.prog 304 = some (.agg ([.int .i64 0, .int .i64 0])) := by and_intros <;> kernel_rfl
@[simp] theorem foff_304_0 : foff Tryz.prog 304 0 = some 0 ∧ ftyp Tryz.prog 304 0 = some 3 := by and_intros <;> kernel_rfl
@[simp] theorem foff_304_1 : foff Tryz.prog 304 1 = some 1 ∧ ftyp Tryz.prog 304 1 = some 3 := by and_intros <;> kernel_rfl
@[simp] theorem fplace_304 : fplace Tryz.prog 304 = some [(0, 1), (1, 1)] ∧ flatStruct Tryz.prog 304 = some [.int .i64, .int .i64] := by and_intros <;> kernel_rfl
@[simp] theorem tk_305 : tk Tryz.prog 305 = .int .u32 ∧ tsz Tryz.prog 305 = some 1 ∧ tzero Tryz.prog 305 = some ([.d (.int .u32 0)]) ∧ tbytes Tryz.prog 305 = some 4 ∧ tzeroD Tryz.prog 305 = some (.int .u32 0) := by and_intros <;> kernel_rfl
@[simp] theorem tk_307 : tk Tryz.prog 307 = .ptr 331 ∧ tsz Tryz.prog 307 = some 1 := by and_intros <;> kernel_rfl
@[simp] theorem tk_323 : (tk Tryz.prog 323 = .func) ∧ tsz Tryz.prog 323 = some 1 := by and_intros <;> kernel_rfl
@[simp] theorem tk_328 : tk Tryz.prog 328 = .slice 333 ∧ tsz Tryz.prog 328 = some 1 ∧ tzero Tryz.prog 328 = some ([.lit (.slice none 0 0)]) ∧ tbytes Tryz.prog 328 = some 24 ∧ tzeroD Tryz.prog 328 = some (.list []) ∧ srcTy Tryz.prog 328 = true := by and_intros <;> kernel_rfl
@[simp] theorem tk_329 : tk Tryz.prog 329 = .slice 336 ∧ tsz Tryz.prog 329 = some 1 ∧ tzero Tryz.prog 329 = some ([.lit (.slice none 0 0)]) ∧ tbytes Tryz.prog 329 = some 24 ∧ tzeroD Tryz.prog 329 = some (.list []) ∧ srcTy Tryz.prog 329 = true := by and_intros <;> kernel_rfl
@[simp] theorem tk_330 : tk Tryz.prog 330 = .struct ∧ tsz Tryz.prog 330 = some 3 ∧ tzero Tryz.prog 330 = some ([.lit (.slice none 0 0), .lit (.slice none 0 0), .d (.int .i64 0)]) ∧ tbytes Tryz.prog 330 = some 56 ∧ tzeroD Tryz.prog 330 = some (.agg ([.list [], .list [], .int .i64 0])) := by and_intros <;> kernel_rfl
@[simp] theorem foff_330_0 : foff Tryz.prog 330 0 = some 0 ∧ ftyp Tryz.prog 330 0 = some 328 := by and_intros <;> kernel_rfl
@[simp] theorem foff_330_1 : foff Tryz.prog 330 1 = some 1 ∧ ftyp Tryz.prog 330 1 = some 329 := by and_intros <;> kernel_rfl
@[simp] theorem foff_330_2 : foff Tryz.prog 330 2 = some 2 ∧ ftyp Tryz.prog 330 2 = some 3 := by and_intros <;> kernel_rfl
@[simp] theorem fplace_330 : fplace Tryz.prog 330 = some [(0, 1), (1, 1), (2, 1)] := by kernel_rfl
@[simp] theorem tk_331 : tk Tryz.prog 331 = .struct ∧ tsz Tryz.prog 331 = some 3 ∧ tzero Tryz.prog 331 = some ([.lit (.slice none 0 0), .lit (.slice none 0 0), .d (.int .i64 0)]) ∧ tbytes Tryz.prog 331 = some 56 ∧ tzeroD Tryz.prog 331 = some (.agg ([.list [], .list [], .int .i64 0])) := by and_intros <;> kernel_rfl
@[simp] theorem foff_331_0 : foff Tryz.prog 331 0 = some 0 ∧ ftyp Tryz.prog 331 0 = some 328 := by and_intros <;> kernel_rfl
@[simp] theorem foff_331_1 : foff Tryz.prog 331 1 = some 1 ∧ ftyp Tryz.prog 331 1 = some 329 := by and_intros <;> kernel_rfl
@[simp] theorem foff_331_2 : foff Tryz.prog 331 2 = some 2 ∧ ftyp Tryz.prog 331 2 = some 3 := by and_intros <;> kernel_rfl
@[simp] theorem fplace_331 : fplace Tryz.prog 331 = some [(0, 1), (1, 1), (2, 1)] := by kernel_rfl
@[simp] theorem tk_332 : tk Tryz.prog 332 = .struct ∧ tsz Tryz.prog 332 = some 3 ∧ tzero Tryz.prog 332 = some ([.d (.int .u16 0), .d (.int .u16 0), .d (.int .u16 0)]) ∧ tbytes Tryz.prog 332 = some 6 ∧ tzeroD Tryz.prog 332 = some (.agg ([.int .u16 0, .int .u16 0, .int .u16 0])) := by and_intros <;> kernel_rfl
@[simp] theorem foff_332_0 : foff Tryz.prog 332 0 = some 0 ∧ ftyp Tryz.prog 332 0 = some 101 := by and_intros <;> kernel_rfl
@[simp] theorem foff_332_1 : foff Tryz.prog 332 1 = some 1 ∧ ftyp Tryz.prog 332 1 = some 101 := by and_intros <;> kernel_rfl
@[simp] theorem foff_332_2 : foff Tryz.prog 332 2 = some 2 ∧ ftyp Tryz.prog 332 2 = some 101 := by and_intros <;> kernel_rfl
@[simp] theorem fplace_332 : fplace Tryz.prog 332 = some [(0, 1), (1, 1), (2, 1)] ∧ flatStruct Tryz.prog 332 = some [.int .u16, .int .u16, .int .u16] := by and_intros <;> kernel_rfl
@[simp] theorem tk_333 : tk Tryz.prog 333 = .struct ∧ tsz Tryz.prog 333 = some 3 ∧ tzero Tryz.prog 333 = some ([.d (.int .u16 0), .d (.int .u16 0), .d (.int .u16 0)]) ∧ tbytes Tryz.prog 333 = some 6 ∧ tzeroD Tryz.prog 333 = some (.agg ([.int .u16 0, .int .u16 0, .int .u16 0])) := by and_intros <;> kernel_rfl
@[simp] theorem foff_333_0 : foff Tryz.prog 333 0 = some 0 ∧ ftyp Tryz.prog 333 0 = some 101 := by and_intros <;> kernel_rfl
@[simp] theorem foff_333_1 : foff Tryz.prog 333 1 = some 1 ∧ ftyp Tryz.prog 333 1 = some 101 := by and_intros <;> kernel_rfl
@[simp] theorem foff_333_2 : foff Tryz.prog 333 2 = some 2 ∧ ftyp Tryz.prog 333 2 = some 101 := by and_intros <;> kernel_rfl
@[simp] theorem fplace_333 : fplace Tryz.prog 333 = some [(0, 1), (1, 1), (2, 1)] ∧ flatStruct Tryz.prog 333 = some [.int .u16, .int .u16, .int .u16] := by and_intros <;> kernel_rfl
@[simp] theorem tk_335 : tk Tryz.prog 335 = .struct ∧ tsz Tryz.prog 335 = some 3 ∧ tzero Tryz.prog 335 = some ([.d (.int .u32 0), .d (.int .u32 0), .d (.int .u32 0)]) ∧ tbytes Tryz.prog 335 = some 12 ∧ tzeroD Tryz.prog 335 = some (.agg ([.int .u32 0, .int .u32 0, .int .u32 0])) := by and_intros <;> kernel_rfl
@[simp] theorem foff_335_0 : foff Tryz.prog 335 0 = some 0 ∧ ftyp Tryz.prog 335 0 = some 305 := by and_intros <;> kernel_rfl
@[simp] theorem foff_335_1 : foff Tryz.prog 335 1 = some 1 ∧ ftyp Tryz.prog 335 1 = some 305 := by and_intros <;> kernel_rfl
@[simp] theorem foff_335_2 : foff Tryz.prog 335 2 = some 2 ∧ ftyp Tryz.prog 335 2 = some 305 := by and_intros <;> kernel_rfl
@[simp] theorem fplace_335 : fplace Tryz.prog 335 = some [(0, 1), (1, 1), (2, 1)] ∧ flatStruct Tryz.prog 335 = some [.int .u32, .int .u32, .int .u32] := by and_intros <;> kernel_rfl
@[simp] theorem tk_336 : tk Tryz.prog 336 = .struct ∧ tsz Tryz.prog 336 = some 3 ∧ tzero Tryz.prog 336 = some ([.d (.int .u32 0), .d (.int .u32 0), .d (.int .u32 0)]) ∧ tbytes Tryz.prog 336 = some 12 ∧ tzeroD Tryz.prog 336 = some (.agg ([.int .u32 0, .int .u32 0, .int .u32 0])) := by and_intros <;> kernel_rfl
@[simp] theorem foff_336_0 : foff Tryz.prog 336 0 = some 0 ∧ ftyp Tryz.prog 336 0 = some 305 := by and_intros <;> kernel_rfl
@[simp] theorem foff_336_1 : foff Tryz.prog 336 1 = some 1 ∧ ftyp Tryz.prog 336 1 = some 305 := by and_intros <;> kernel_rfl
@[simp] theorem foff_336_2 : foff Tryz.prog 336 2 = some 2 ∧ ftyp Tryz.prog 336 2 = some 305 := by and_intros <;> kernel_rfl
@[simp] theorem fplace_336 : fplace Tryz.prog 336 = some [(0, 1), (1, 1), (2, 1)] ∧ flatStruct Tryz.prog 336 = some [.int .u32, .int .u32, .int .u32] := by and_intros <;> kernel_rfl
@[simp] theorem tk_345 : tk Tryz.prog 345 = .ptr 333 ∧ tsz Tryz.prog 345 = some 1 := by and_intros <;> kernel_rfl
@[simp] theorem tk_346 : tk Tryz.prog 346 = .ptr 336 ∧ tsz Tryz.prog 346 = some 1 := by and_intros <;> kernel_rfl
@[simp] theorem tk_347 : tk Tryz.prog 347 = .slice 118 ∧ tsz Tryz.prog 347 = some 1 ∧ tzero Tryz.prog 347 = some ([.lit (.slice none 0 0)]) ∧ tbytes Tryz.prog 347 = some 24 ∧ tzeroD Tryz.prog 347 = some (.list []) ∧ srcTy Tryz.prog 347 = true := by and_intros <;> kernel_rfl
@[simp] theorem tk_349 : tk Tryz.prog 349 = .struct ∧ tsz Tryz.prog 349 = some 4 ∧ tzero Tryz.prog 349 = some ([.lit (.pointer none), .lit (.pointer none), .lit (.pointer none), .d (.str [])]) := by and_intros <;> kernel_rfl
@[simp] theorem foff_349_0 : foff Tryz.prog 349 0 = some 0 ∧ ftyp Tryz.prog 349 0 = some 17 := by and_intros <;> kernel_rfl
@[simp] theorem foff_349_1 : foff Tryz.prog 349 1 = some 1 ∧ ftyp Tryz.prog 349 1 = some 17 := by and_intros <;> kernel_rfl
@[simp] theorem foff_349_2 : foff Tryz.prog 349 2 = some 2 ∧ ftyp Tryz.prog 349 2 = some 17 := by and_intros <;> kernel_rfl
@[simp] theorem foff_349_3 : foff Tryz.prog 349 3 = some 3 ∧ ftyp Tryz.prog 349 3 = some 9 := by and_intros <;> kernel_rfl
@[simp] theorem fplace_349 : fplace Tryz.prog 349 = some [(0, 1), (1, 1), (2, 1), (3, 1)] := by kernel_rfl
@[simp] theorem tk_350 : tk Tryz.prog 350 = .struct ∧ tsz Tryz.prog 350 = some 4 ∧ tzero Tryz.prog 350 = some ([.lit (.pointer none), .lit (.pointer none), .lit (.pointer none), .d (.str [])]) := by and_intros <;> kernel_rfl
@[simp] theorem foff_350_0 : foff Tryz.prog 350 0 = some 0 ∧ ftyp Tryz.prog 350 0 = some 17 := by and_intros <;> kernel_rfl
@[simp] theorem foff_350_1 : foff Tryz.prog 350 1 = some 1 ∧ ftyp Tryz.prog 350 1 = some 17 := by and_intros <;> kernel_rfl
@[simp] theorem foff_350_2 : foff Tryz.prog 350 2 = some 2 ∧ ftyp Tryz.prog 350 2 = some 17 := by and_intros <;> kernel_rfl
@[simp] theorem foff_350_3 : foff Tryz.prog 350 3 = some 3 ∧ ftyp Tryz.prog 350 3 = some 9 := by and_intros <;> kernel_rfl
@[simp] theorem fplace_350 : fplace Tryz.prog 350 = some [(0, 1), (1, 1), (2, 1), (3, 1)] := by kernel_rfl
@[simp] theorem tk_351 : tk Tryz.prog 351 = .arr 0 16 ∧ tsz Tryz.prog 351 = some 0 ∧ tzero Tryz.prog 351 = some ([]) ∧ tbytes Tryz.prog 351 = some 0 ∧ tzeroD Tryz.prog 351 = some (.agg ([])) ∧ fplace Tryz.prog 351 = none := by and_intros <;> kernel_rfl
@[simp] theorem tk_352 : tk Tryz.prog 352 = .struct ∧ tsz Tryz.prog 352 = some 0 ∧ tzero Tryz.prog 352 = some ([]) ∧ tbytes Tryz.prog 352 = some 0 ∧ tzeroD Tryz.prog 352 = some (.agg ([])) ∧ fplace Tryz.prog 352 = some [(0, 0)] := by and_intros <;> kernel_rfl
@[simp] theorem tk_353 : tk Tryz.prog 353 = .struct ∧ tsz Tryz.prog 353 = some 0 ∧ tzero Tryz.prog 353 = some ([]) ∧ tbytes Tryz.prog 353 = some 0 ∧ tzeroD Tryz.prog 353 = some (.agg ([])) ∧ fplace Tryz.prog 353 = some [(0, 0)] := by and_intros <;> kernel_rfl
@[simp] theorem tk_354 : tk Tryz.prog 354 = .int .u8 ∧ tsz Tryz.prog 354 = some 1 ∧ tzero Tryz.prog 354 = some ([.d (.int .u8 0)]) ∧ tbytes Tryz.prog 354 = some 1 ∧ tzeroD Tryz.prog 354 = some (.int .u8 0) := by and_intros <;> kernel_rfl
@[simp] theorem tk_355 : tk Tryz.prog 355 = .int .u8 ∧ tsz Tryz.prog 355 = some 1 ∧ tzero Tryz.prog 355 = some ([.d (.int .u8 0)]) ∧ tbytes Tryz.prog 355 = some 1 ∧ tzeroD Tryz.prog 355 = some (.int .u8 0) := by and_intros <;> kernel_rfl
@[simp] theorem tk_356 : (tk Tryz.prog 356 = .func) ∧ tsz Tryz.prog 356 = some 1 := by and_intros <;> kernel_rfl
@[simp] theorem tk_357 : tk Tryz.prog 357 = .ptr 5 ∧ tsz Tryz.prog 357 = some 1 := by and_intros <;> kernel_rfl
@[simp] theorem tk_358 : tk Tryz.prog 358 = .int .i32 ∧ tsz Tryz.prog 358 = some 1 ∧ tzero Tryz.prog 358 = some ([.d (.int .i32 0)]) ∧ tbytes Tryz.prog 358 = some 4 ∧ tzeroD Tryz.prog 358 = some (.int .i32 0) := by and_intros <;> kernel_rfl
@[simp] theorem tk_359 : tk Tryz.prog 359 = .int .i32 ∧ tsz Tryz.prog 359 = some 1 ∧ tzero Tryz.prog 359 = some ([.d (.int .i32 0)]) ∧ tbytes Tryz.prog 359 = some 4 ∧ tzeroD Tryz.prog 359 = some (.int .i32 0) := by and_intros <;> kernel_rfl
@[simp] theorem tk_360 : tk Tryz.prog 360 = .struct ∧ tsz Tryz.prog 360 = some 11 ∧ tzero Tryz.prog 360 = some ([.d (.int .u64 0), .d (.int .u64 0), .d (.int .u32 0), .d (.int .u8 0), .d (.int .u8 0), .d (.int .u8 0), .d (.int .u8 0), .lit .nilFunc, .lit (.pointer none), .d (.int .i32 0), .d (.int .i32 0)]) := by and_intros <;> kernel_rfl
@[simp] theorem foff_360_0 : foff Tryz.prog 360 0 = some 0 ∧ ftyp Tryz.prog 360 0 = some 12 := by and_intros <;> kernel_rfl
@[simp] theorem foff_360_1 : foff Tryz.prog 360 1 = some 1 ∧ ftyp Tryz.prog 360 1 = some 12 := by and_intros <;> kernel_rfl
@[simp] theorem foff_360_2 : foff Tryz.prog 360 2 = some 2 ∧ ftyp Tryz.prog 360 2 = some 305 := by and_intros <;> kernel_rfl
@[simp] theorem foff_360_3 : foff Tryz.prog 360 3 = some 3 ∧ ftyp Tryz.prog 360 3 = some 354 := by and_intros <;> kernel_rfl
@[simp] theorem foff_360_4 : foff Tryz.prog 360 4 = some 4 ∧ ftyp Tryz.prog 360 4 = some 5 := by and_intros <;> kernel_rfl
@[simp] theorem foff_360_5 : foff Tryz.prog 360 5 = some 5 ∧ ftyp Tryz.prog 360 5 = some 5 := by and_intros <;> kernel_rfl
@[simp] theorem foff_360_6 : foff Tryz.prog 360 6 = some 6 ∧ ftyp Tryz.prog 360 6 = some 355 := by and_intros <;> kernel_rfl
@[simp] theorem foff_360_7 : foff Tryz.prog 360 7 = some 7 ∧ ftyp Tryz.prog 360 7 = some 356 := by and_intros <;> kernel_rfl
@[simp] theorem foff_360_8 : foff Tryz.prog 360 8 = some 8 ∧ ftyp Tryz.prog 360 8 = some 357 := by and_intros <;> kernel_rfl
@[simp] theorem foff_360_9 : foff Tryz.prog 360 9 = some 9 ∧ ftyp Tryz.prog 360 9 = some 358 := by and_intros <;> kernel_rfl
@[simp] theorem foff_360_10 : foff Tryz.prog 360 10 = some 10 ∧ ftyp Tryz.prog 360 10 = some 359 := by and_intros <;> kernel_rfl
@[simp] theorem fplace_360 : fplace Tryz.prog 360 = some [(0, 1), (1, 1), (2, 1), (3, 1), (4, 1), (5, 1), (6, 1), (7, 1), (8, 1), (9, 1), (10, 1)] := by kernel_rfl
@[simp] theorem tk_361 : tk Tryz.prog 361 = .struct ∧ tsz Tryz.prog 361 = some 11 ∧ tzero Tryz.prog 361 = some ([.d (.int .u64 0), .d (.int .u64 0), .d (.int .u32 0), .d (.int .u8 0), .d (.int .u8 0), .d (.int .u8 0), .d (.int .u8 0), .lit .nilFunc, .lit (.pointer none), .d (.int .i32 0), .d (.int .i32 0)]) := by and_intros <;> kernel_rfl
@[simp] theorem foff_361_0 : foff Tryz.prog 361 0 = some 0 ∧ ftyp Tryz.prog 361 0 = some 12 := by and_intros <;> kernel_rfl
@[simp] theorem foff_361_1 : foff Tryz.prog 361 1 = some 1 ∧ ftyp Tryz.prog 361 1 = some 12 := by and_intros <;> kernel_rfl
@[simp] theorem foff_361_2 : foff Tryz.prog 361 2 = some 2 ∧ ftyp Tryz.prog 361 2 = some 305 := by and_intros <;> kernel_rfl
@[simp] theorem foff_361_3 : foff Tryz.prog 361 3 = some 3 ∧ ftyp Tryz.prog 361 3 = some 354 := by and_intros <;> kernel_rfl
@[simp] theorem foff_361_4 : foff Tryz.prog 361 4 = some 4 ∧ ftyp Tryz.prog 361 4 = some 5 := by and_intros <;> kernel_rfl
@[simp] theorem foff_361_5 : foff Tryz.prog 361 5 = some 5 ∧ ftyp Tryz.prog 361 5 = some 5 := by and_intros <;> kernel_rfl
@[simp] theorem foff_361_6 : foff Tryz.prog 361 6 = some 6 ∧ ftyp Tryz.prog 361 6 = some 355 := by and_intros <;> kernel_rfl
@[simp] theorem foff_361_7 : foff Tryz.prog 361 7 = some 7 ∧ ftyp Tryz.prog 361 7 = some 356 := by and_intros <;> kernel_rfl
@[simp] theorem foff_361_8 : foff Tryz.prog 361 8 = some 8 ∧ ftyp Tryz.prog 361 8 = some 357 := by and_intros <;> kernel_rfl
@[simp] theorem foff_361_9 : foff Tryz.prog 361 9 = some 9 ∧ ftyp Tryz.prog 361 9 = some 358 := by and_intros <;> kernel_rfl
@[simp] theorem foff_361_10 : foff Tryz.prog 361 10 = some 10 ∧ ftyp Tryz.prog 361 10 = some 359 := by and_intros <;> kernel_rfl
@[simp] theorem fplace_361 : fplace Tryz.prog 361 = some [(0, 1), (1, 1), (2, 1), (3, 1), (4, 1), (5, 1), (6, 1), (7, 1), (8, 1), (9, 1), (10, 1)] := by kernel_rfl
end Go.Am
end
section
namespace Go.Am
open Go
def idxO : List D → Option D
 | [.str s, .str t] => if s.length < 4294967281 then some (.int .i64 (Go.Lib.index s t)) else none
 | _ => none
def ibO : List D → Option D
 | [.str s, .int .u8 c] => some (.int .i64 (Go.Lib.indexByte s c.toNat.toUInt8))
 | _ => none
def hpO : List D → Option D
 | [.str s, .str p] => some (.bool (Go.Lib.hasPrefix s p))
 | _ => none
attribute [simp] idxO.eq_1 ibO.eq_1 hpO.eq_1
noncomputable def denDT (X : Ctx) (f : FuncId) (c : Code) (S : St) (ds : List DF) : XD := lim fun k => denD X f (callN X k) k c S ds
noncomputable def denRT (X : Ctx) (f : FuncId) (rv : AV) (c : Code) (S : St) : Option (XE × St) := lim fun k => denR X f (callN X k) k rv c S
noncomputable def recT (X : Ctx) : CallFn := fun g args cs => lim fun k => recFn X k (callN X k) g args cs
abbrev KtD := XE → St → List DF → Ans
noncomputable def denKD (X : Ctx) (f : FuncId) (c : Code) (S : St) (ds : List DF) (k : KtD) : Ans := (denDT X f c S ds).bind fun p => k p.1 p.2.1 p.2.2
noncomputable def runKD (X : Ctx) (md : Bool) (all ops : List Oper) (S : St) (ds : List DF) (k : KtD) : Ans := (runOpsD X (callT X) md all ops S ds).bind fun p => k p.1 p.2.1 p.2.2
noncomputable def seqKD (X : Ctx) (f : FuncId) (b : Code) (k : KtD) : KtD
 | .normal, S, ds => denKD X f b S ds k
 | e, S, ds => k e S ds
def leaveKD (X : Ctx) (f : FuncId) (id : Nat) (k : KtD) : KtD
 | .normal, S, ds => k .normal (S.leave X f id) ds
 | e, S, ds => k e S ds
noncomputable def nextKD (X : Ctx) (md : Bool) (all r : List Oper) (ds : List DF) (k : KtD) : Kt
 | .normal, S => runKD X md all r S ds k
 | e, S => k e S ds
noncomputable def oneKD (X : Ctx) (md : Bool) (all r : List Oper) (o : Oper) (S : St) (ds : List DF) (k : KtD) : Option DF → Ans
 | some d => runKD X md all r (S.put o.dst true .junk) (d :: ds) k
 | none => runK X md all [o] S (nextKD X md all r ds k)
section
variable {X : Ctx} {f : FuncId} {S : St} {ds : List DF} {md : Bool}
theorem runOpsD_lim (all : List Oper) : ∀ (ops : List Oper) (S : St) (ds : List DF), lim (fun k => runOpsD X (callN X k) md all ops S ds) = runOpsD X (callT X) md all ops S ds
 | [], S, ds => lim_const _
 | o :: r, S, ds => by
  simp only [runOpsD]
  cases deferOf S o with
  | some d => exact runOpsD_lim all r _ _
  | none =>
   simp only [nextD_eq]
   rw [lim_bind (g := fun x n => nT (fun S1 => runOpsD X (callN X n) md all r S1 ds) ds x) (gstep_mono (callN_cmono X) all) (fun x => by
    obtain ⟨e, S1⟩ := x
    cases e with
    | normal => exact runOpsD_mono (callN_cmono X) all r S1 ds
    | _ => exact Mono.const _), gstep_lim]
   congr 1
   funext x
   obtain ⟨e, S1⟩ := x
   cases e with
   | normal => exact runOpsD_lim all r S1 ds
   | _ => exact lim_const _
theorem dmD (c : Code) (S : St) (ds : List DF) : Mono (fun k => denD X f (callN X k) k c S ds) := denD_mono (callN_cmono X) f (m := fun k => k) (fun k => Nat.le_succ k) c S ds
theorem denDT_seq {a b : Code} : denDT X f (.seq a b) S ds = seqD (denDT X f b) (denDT X f a S ds) := by
 unfold denDT
 simp only [denD, seqD_eq]
 rw [lim_bind (g := fun x n => sT (denD X f (callN X n) n b) x) (dmD a S ds) (fun x => by
  obtain ⟨e, S1, ds1⟩ := x
  cases e with
  | normal => exact dmD b S1 ds1
  | _ => exact Mono.const _)]
 congr 1
 funext x
 obtain ⟨e, S1, ds1⟩ := x
 cases e <;> first | rfl | exact lim_const _
theorem denDT_add {c : Code} (h : ∀ k, denD X f (callN X k) k c S ds = addD ds (den X f (callN X k) k c S)) : denDT X f c S ds = addD ds (denT X f c S) := by
 unfold denDT denT
 have : (fun k => denD X f (callN X k) k c S ds) = fun k => (den X f (callN X k) k c S).bind fun q => dT ds q := by
  funext k; rw [h, addD_eq]
 rw [this, lim_bind (dm c S) (fun _ => Mono.const _), addD_eq]
 simp only [lim_const]
theorem denDT_reg {id : Nat} {ops : Array Oper} (h : hasDef ops.toList = true) : denDT X f (.region id ops false) S ds = leaveD (St.leave X f id) (runOpsD X (callT X) (X.md f id) ops.toList ops.toList S ds) := by
 unfold denDT
 have : (fun k => denD X f (callN X k) k (.region id ops false) S ds) = fun k => (runOpsD X (callN X k) (X.md f id) ops.toList ops.toList S ds).bind fun q => lT (St.leave X f id) q := by
  funext k
  simp only [denD, h, Bool.not_false, Bool.and_self, leaveD_eq]
 rw [this, lim_bind (runOpsD_mono (callN_cmono X) _ _ _ _) (fun _ => Mono.const _), runOpsD_lim, leaveD_eq]
 simp only [lim_const]
variable {k : KtD}
theorem denKD_seq {a b : Code} : denKD X f (.seq a b) S ds k = denKD X f a S ds (seqKD X f b k) := by
 simp only [denKD, denDT_seq]
 rcases denDT X f a S ds with _ | ⟨e, S1, ds1⟩
 · rfl
 · cases e <;> rfl
theorem denKD_add {c : Code} (h : denDT X f c S ds = addD ds (denT X f c S)) : denKD X f c S ds k = denK X f c S fun e S => k e S ds := by
 simp only [denKD, denK, h]
 rcases denT X f c S with _ | ⟨e, S1⟩ <;> rfl
theorem denKD_cond {o : Operand} {a b : Code} : denKD X f (.cond o a b) S ds k = denK X f (.cond o a b) S fun e S => k e S ds := denKD_add (denDT_add fun _ => rfl)
theorem denKD_ret : denKD X f .ret S ds k = denK X f .ret S fun e S => k e S ds := denKD_add (denDT_add fun _ => rfl)
theorem denKD_skip : denKD X f .skip S ds k = denK X f .skip S fun e S => k e S ds := denKD_add (denDT_add fun _ => rfl)
theorem denKD_loop {c : Code} : denKD X f (.loop c) S ds k = denK X f (.loop c) S fun e S => k e S ds := denKD_add (denDT_add fun _ => rfl)
theorem denKD_block {id : Nat} {c : Code} : denKD X f (.block id c) S ds k = denK X f (.block id c) S fun e S => k e S ds := denKD_add (denDT_add fun _ => rfl)
theorem denKD_draw {id : Nat} {ops : Array Oper} : denKD X f (.region id ops true) S ds k = denK X f (.region id ops true) S fun e S => k e S ds := denKD_add (denDT_add fun _ => rfl)
theorem denKD_reg {id : Nat} {l : List Oper} : denKD X f (.region id ⟨l⟩ false) S ds k = if hasDef l = true then runKD X (X.md f id) l l S ds (leaveKD X f id k) else denK X f (.region id ⟨l⟩ false) S fun e S => k e S ds := by
 split
 · rename_i h
   simp only [denKD, runKD, denDT_reg (ops := ⟨l⟩) h]
   rcases runOpsD X (callT X) (X.md f id) l l S ds with _ | ⟨e, S1, ds1⟩
   · rfl
   · cases e <;> rfl
 · rename_i h
   exact denKD_add (denDT_add fun _ => by simp [denD, h])
theorem runKD_nil {all : List Oper} : runKD X md all [] S ds k = k .normal S ds := rfl
theorem runKD_cons {all r : List Oper} {o : Oper} : runKD X md all (o :: r) S ds k = oneKD X md all r o S ds k (deferOf S o) := by
 simp only [runKD, runOpsD]
 cases deferOf S o with
 | some d => rfl
 | none =>
  simp only [oneKD, runK, runOps, nextD_eq, andThen_eq]
  rcases gstep X (callT X) md all S o with _ | ⟨e, S1⟩
  · rfl
  · cases e <;> rfl
end
noncomputable def finKD (X : Ctx) (p : FPol) (n0 : Nat) (rs : List ResultVar) : KtD
 | e, S, [] => finK X.P p n0 rs e S
 | e, S, [d] => finD1 X p n0 rs (recT X) S d (recA e)
 | _, _, _ => none
noncomputable def denRK (X : Ctx) (f : FuncId) (rv : AV) (c : Code) (S : St) (k : Kt) : Ans := (denRT X f rv c S).bind fun p => k p.1 p.2
def finRK (P : Program) (p : FPol) (n0 : Nat) (rs : List ResultVar) : Kt
 | .normal, S => finish P p n0 rs S
 | .ret, S => finish P p n0 rs S
 | _, _ => none
section
variable {X : Ctx} {f : FuncId} {S : St}
theorem recFn_cmono (X : Ctx) : CMono fun k => recFn X k (callN X k) := recFn_mono (callN_cmono X) (m := fun k => k) (fun k => Nat.le_succ k)
theorem callOpC_lim {C : Nat → CallFn} (hC : CMono C) (m : Mem) (k0 : Nat) (g : FuncId) (ys : List AV) (mt : List Nat) : lim (fun k => callOp (C k) m k0 g ys mt) = callOp (fun g a c => lim fun k => C k g a c) m k0 g ys mt := by
 unfold callOp callOp2 callOp3
 simp only [callBack_eq]
 rw [lim_bind (hC _ _ _) (fun _ => Mono.const _)]
 simp only [lim_const]
theorem finD1_lim (p : FPol) (n0 : Nat) (rs : List ResultVar) (d : DF) (rv : Option AV) : lim (fun k => finD1 X p n0 rs (recFn X k (callN X k)) S d rv) = finD1 X p n0 rs (recT X) S d rv := by
 cases rv with
 | none => exact lim_const _
 | some rv =>
  simp only [finD1, finM_eq, memC_eq S (callOp _ _ _ _ _ _)]
  rw [lim_bind (g := fun S _ => finish X.P p n0 rs S) ((callOp_mono (recFn_cmono X) _ _ _ _ _).bind (g := fun c _ => memC S (some c)) fun _ => Mono.const _) (fun _ => Mono.const _),
   lim_bind (g := fun c _ => memC S (some c)) (callOp_mono (recFn_cmono X) _ _ _ _ _) (fun _ => Mono.const _), callOpC_lim (recFn_cmono X)]
  simp only [lim_const]
  rfl
theorem call_runD {fn : Func} {c : Code} {args : List AV} {cs : List Cont} {n : Nat} {rs : List ResultVar} {p : FPol} (hov : X.ov = none) (hor : X.orc f = none) (hf : X.P.funcs[f]? = some fn) (hb : fn.body = some c) (hdf : defC c = true) (hn : fn.ntmps = n) (hrs : fn.results.toList = rs)
 (hp : X.fp f = p) (hok : callOk n p args cs = true) : callT X f args cs = denKD X f c (entry n X.gl args cs p.sites) [] (finKD X p cs.length rs) := by
 subst hp
 subst hn
 subst hrs
 unfold callT
 rw [← lim_shift (callN_cmono X f args cs)]
 have e1 : (fun k => callN X (k + 1) f args cs) = fun k => (denD X f (callN X k) k c (entry fn.ntmps X.gl args cs (X.fp f).sites) []).bind fun q => finD X (X.fp f) cs.length fn.results.toList (recFn X k (callN X k)) (some q) := by
  funext k
  rw [callN, hov, hor, hf]
  simp only [hb, hdf, bodyRun, runFnD]
  rw [if_pos (by simpa only [callOk] using hok), finD_eq]
 rw [e1, lim_bind (g := fun q k => finD X (X.fp f) cs.length fn.results.toList (recFn X k (callN X k)) (some q)) (dmD c _ _) (fun q => finDs_mono (recFn_cmono X) _ _ _ q)]
 simp only [denKD]
 congr 1
 funext q
 obtain ⟨e, S1, ds⟩ := q
 match ds with
 | [] =>
  simp only [finD, finKD, lim_const]
  cases e <;> rfl
 | [d] => exact finD1_lim _ _ _ _ _
 | _ :: _ :: _ => exact lim_const _
theorem rec_run {fn : Func} {c : Code} {args ys : List AV} {rv : AV} {cs : List Cont} {n : Nat} {rs : List ResultVar} {p : FPol} (hf : X.P.funcs[f]? = some fn) (hb : fn.body = some c) (hn : fn.ntmps = n) (hrs : fn.results.toList = rs)
 (hp : X.fp f = p) (hl : args.getLast? = some rv) (hy : args.dropLast = ys) (hok : callOk n p ys cs = true) : recT X f args cs = denRK X f rv c (entry n X.gl ys cs p.sites) (finRK X.P p cs.length rs) := by
 subst hp
 subst hn
 subst hrs
 subst hy
 unfold recT
 have e1 : (fun k => recFn X k (callN X k) f args cs) = fun k => (denR X f (callN X k) k rv c (entry fn.ntmps X.gl args.dropLast cs (X.fp f).sites)).bind fun q => finR X.P (X.fp f) cs.length fn.results.toList (some q) := by
  funext k
  simp only [recFn, hf, hb, runFnR, hl]
  rw [if_pos (by simpa only [callOk] using hok), finR_eq]
 rw [e1, lim_bind (denR_mono (callN_cmono X) f (m := fun k => k) (fun k => Nat.le_succ k) rv c _) (fun _ => Mono.const _)]
 simp only [denRK, lim_const]
 congr 1
 funext q
 obtain ⟨e, S1⟩ := q
 cases e <;> rfl
variable {k : Kt} {rv : AV}
theorem denRK_seq {a b : Code} : denRK X f rv (.seq a b) S k = denRK X f rv a S (seqK X f b k) := by
 have h : denRT X f rv (.seq a b) S = andThen (denRT X f rv a S) (denT X f b) :=
  andThen_lim (F := fun n => denR X f (callN X n) n rv a S) (K := fun S' n => den X f (callN X n) n b S') (denR_mono (callN_cmono X) f (m := fun k => k) (fun k => Nat.le_succ k) rv a S) (fun S' => dm b S')
 simp only [denRK, h, andThen_bind]
 congr 1
 funext q
 obtain ⟨e, S1⟩ := q
 cases e <;> rfl
theorem denRK_reg {id : Nat} {o : Oper} {r : List Oper} (h : isRecover o = true) : denRK X f rv (.region id ⟨o :: r⟩ false) S k = runK X (X.md f id) (o :: r) r (S.put o.dst true rv) (leaveK X f id k) := by
 have h1 : denRT X f rv (.region id ⟨o :: r⟩ false) S = mapN (St.leave X f id) (runOps X (callT X) (X.md f id) (o :: r) r (S.put o.dst true rv)) := by
  unfold denRT
  have : (fun k => denR X f (callN X k) k rv (.region id ⟨o :: r⟩ false) S) = fun k => (runOps X (callN X k) (X.md f id) (o :: r) r (S.put o.dst true rv)).bind fun q => mT (St.leave X f id) q := by
   funext k
   simp only [denR, h, if_true, mapN_eq]
  rw [this, lim_bind (runOps_mono (callN_cmono X) _ _ _) (fun _ => Mono.const _), runOps_lim, mapN_eq]
  simp only [lim_const]
 simp only [denRK, runK, h1]
 rcases runOps X (callT X) (X.md f id) (o :: r) r (S.put o.dst true rv) with _ | ⟨e, S1⟩
 · rfl
 · cases e <;> rfl
end
def Ctx.over (X : Ctx) (cl : CallFn) : Ctx := { X with ov := some cl }
section
variable {X : Ctx} {cl C : CallFn} {f : FuncId}
@[simp] theorem over_P : (X.over cl).P = X.P := rfl
@[simp] theorem over_gl : (X.over cl).gl = X.gl := rfl
@[simp] theorem over_keep : (X.over cl).keep = X.keep := rfl
@[simp] theorem over_gh : (X.over cl).gh = X.gh := rfl
@[simp] theorem over_md : (X.over cl).md = X.md := rfl
@[simp] theorem over_fp : (X.over cl).fp = X.fp := rfl
@[simp] theorem over_od : (X.over cl).od = X.od := rfl
@[simp] theorem over_fl : (X.over cl).fl = X.fl := rfl
@[simp] theorem callT_over : callT (X.over cl) = cl := by
 funext g a c
 unfold callT
 rw [← lim_shift (callN_cmono (X.over cl) g a c)]
 have : (fun n => callN (X.over cl) (n + 1) g a c) = fun _ => cl g a c := rfl
 rw [this, lim_const]
end
inductive PR (ε σ α : Type) where
 | ok (a : α) (s : σ)
 | bad (e : ε) (s : σ)
 | out
section
variable {ε σ α β γ : Type}
def PR.el (r : PR ε σ α) (f : α → σ → Option β) (g : ε → σ → Option β) : Option β :=
 match r with
 | .ok a s => f a s
 | .bad e s => g e s
 | .out => none
@[simp] theorem el_ok {a : α} {s : σ} {f : α → σ → Option β} {g : ε → σ → Option β} : (PR.ok a s).el f g = f a s := rfl
@[simp] theorem el_bad {e : ε} {s : σ} {f : α → σ → Option β} {g : ε → σ → Option β} : (PR.bad e s).el f g = g e s := rfl
@[simp] theorem el_out {f : α → σ → Option β} {g : ε → σ → Option β} : (PR.out : PR ε σ α).el f g = none := rfl
@[simp] theorem el_ite {c : Prop} [Decidable c] {a b : PR ε σ α} {f : α → σ → Option β} {g : ε → σ → Option β} : (if c then a else b).el f g = if c then a.el f g else b.el f g := by split <;> rfl
def PR.bind (r : PR ε σ α) (k : α → σ → PR ε σ γ) : PR ε σ γ :=
 match r with
 | .ok a s => k a s
 | .bad e s => .bad e s
 | .out => .out
@[simp] theorem bind_ok {a : α} {s : σ} {k : α → σ → PR ε σ γ} : (PR.ok a s).bind k = k a s := rfl
@[simp] theorem bind_bad {e : ε} {s : σ} {k : α → σ → PR ε σ γ} : (PR.bad e s : PR ε σ α).bind k = .bad e s := rfl
@[simp] theorem bind_out {k : α → σ → PR ε σ γ} : (PR.out : PR ε σ α).bind k = .out := rfl
@[simp] theorem el_bind {r : PR ε σ α} {k : α → σ → PR ε σ γ} {f : γ → σ → Option β} {g : ε → σ → Option β} : (r.bind k).el f g = r.el (fun a s => (k a s).el f g) g := by cases r <;> rfl
@[simp] theorem el_el {r : PR ε σ α} {f : α → σ → Option β} {g : ε → σ → Option β} : r.el (fun a s => f a s) (fun e s => g e s) = r.el f g := rfl
theorem el_frz {n0 : Nat} {b : Bool} {r : PR ε σ α} {f : α → σ → Ans} {g : ε → σ → Ans} : frzR n0 b (r.el f g) = r.el (fun a s => frzR n0 b (f a s)) (fun e s => frzR n0 b (g e s)) := by cases r <;> rfl
theorem el_back {m : Mem} {k0 : Nat} {ρ B : List Nat} {r : PR ε σ α} {f : α → σ → Ans} {g : ε → σ → Ans} : callBack m k0 ρ B (r.el f g) = r.el (fun a s => callBack m k0 ρ B (f a s)) (fun e s => callBack m k0 ρ B (g e s)) := by cases r <;> rfl
theorem el_callK {X : Ctx} {md : Bool} {S : St} {d : Option Nat} {all q : List Oper} {k : Kt} {r : PR ε σ α} {f : α → σ → Option CRes} {g : ε → σ → Option CRes} : callK X md S d all q k (r.el f g) = r.el (fun a s => callK X md S d all q k (f a s)) (fun e s => callK X md S d all q k (g e s)) := by cases r <;> rfl
theorem el_dcallK {X : Ctx} {md : Bool} {nd : Nat × List (List Nat)} {S : St} {d : Option Nat} {all q : List Oper} {acc : List Stp} {k : Kt} {r : PR ε σ α} {f : α → σ → Option CRes} {g : ε → σ → Option CRes} : dcallK X md nd S d all q acc k (r.el f g) = r.el (fun a s => dcallK X md nd S d all q acc k (f a s)) (fun e s => dcallK X md nd S d all q acc k (g e s)) := by cases r <;> rfl
def Le (a b : Option β) : Prop := ∀ r, a = some r → b = some r
theorem Le.refl (a : Option β) : Le a a := fun _ h => h
theorem Le.trans {a b c : Option β} (h : Le a b) (k : Le b c) : Le a c := fun r hr => k r (h r hr)
theorem Le.none {b : Option β} : Le none b := fun _ h => by cases h
theorem Le.el {r : PR ε σ α} {f f' : α → σ → Option β} {g g' : ε → σ → Option β} (hf : ∀ a s, Le (f a s) (f' a s)) (hg : ∀ e s, Le (g e s) (g' e s)) : Le (r.el f g) (r.el f' g') := by
 cases r with
 | ok a s => exact hf a s
 | bad e s => exact hg e s
 | out => exact Le.none
end
section
variable {X : Ctx} {cl : CallFn} {md : Bool} {all : List Oper} {S : St}
@[simp] theorem dgstep_none {d : Option Tmp} {op : Op} {ty : TypeId} {pos : String} {af : Array Edge} : dgstep X cl md all S ⟨d, op, ty, pos, af, none⟩ = dstep X cl S ⟨d, op, ty, pos, af, none⟩ (stepv X.P S ⟨d, op, ty, pos, af, none⟩) := rfl
@[simp] theorem pOps_nil {js : List Nat} {i : Nat} {acc : List Stp} : pOps X md all js i [] S acc = some (revA acc []) := by rw [revA_eq, List.append_nil]; rfl
theorem pOps_cons {js : List Nat} {i : Nat} {o : Oper} {r : List Oper} {acc : List Stp} : pOps X md all js i (o :: r) S acc = if js.contains i = true then (match dgstep X (fun _ _ _ => none) md all S o with
 | some (S1, p) => pOps X md all js (i + 1) r S1 (p :: acc)
 | none => none) else pOps X md all js (i + 1) r (S.put o.dst false .junk) (⟨[], [], false, .junk⟩ :: acc) := by
 simp only [pOps]
 cases js.contains i <;> rfl
end
attribute [simp] pOps_cons dstep.eq_1 dstep.eq_2 dstep.eq_3 panE.eq_1 pEnd.eq_1 pEnd.eq_2 verSum.eq_1 verSum.eq_2 verSums.eq_1 verSums.eq_2 killM.eq_1 killM.eq_2 St.kill.eq_1 farE.eq_1 farE.eq_2 farJ.eq_1 farJ.eq_2
attribute [simp] el_frz el_back el_callK el_dcallK
section
variable {ε σ α : Type} {X : Ctx} {md : Bool} {nd : Nat × List (List Nat)} {S : St} {d : Option Nat} {all q : List Oper} {acc : List Stp} {k : Kt} {r : PR ε σ α} {f : α → σ → Option CRes} {g : ε → σ → Option CRes}
@[simp] theorem el_dcallG : dcallG X md nd S d all q acc k (r.el f g) = r.el (fun a s => dcallG X md nd S d all q acc k (f a s)) (fun e s => dcallG X md nd S d all q acc k (g e s)) := by cases r <;> rfl
@[simp] theorem el_memC : memC S (r.el f g) = r.el (fun a s => memC S (f a s)) (fun e s => memC S (g e s)) := by cases r <;> rfl
@[simp] theorem el_finM {p : FPol} {n0 : Nat} {rs : List ResultVar} {f : α → σ → Option St} {g : ε → σ → Option St} : finM X p n0 rs (r.el f g) = r.el (fun a s => finM X p n0 rs (f a s)) (fun e s => finM X p n0 rs (g e s)) := by cases r <;> rfl
end
attribute [simp] denKD_seq denKD_cond denKD_ret denKD_skip denKD_loop denKD_block denKD_draw denKD_reg runKD_nil runKD_cons
attribute [simp] seqKD.eq_1 leaveKD.eq_1 nextKD.eq_1 oneKD.eq_1 oneKD.eq_2 finKD.eq_1 finKD.eq_2 finM.eq_1 finM.eq_2 memC.eq_1 recA.eq_1 recA.eq_2 recA.eq_3 finD1.eq_1 denRK_seq finRK.eq_1 finRK.eq_2
section
variable {X : Ctx} {f : FuncId} {S : St} {ds : List DF} {kd : KtD} {b : Code}
@[simp] theorem seqKD_r : seqKD X f b kd .ret S ds = kd .ret S ds := rfl
@[simp] theorem seqKD_p {t : TypeId} {x : D} : seqKD X f b kd (.panic t x) S ds = kd (.panic t x) S ds := rfl
@[simp] theorem seqKD_x {i : Nat} : seqKD X f b kd (.exit i) S ds = kd (.exit i) S ds := rfl
@[simp] theorem leaveKD_p {id : Nat} {t : TypeId} {x : D} : leaveKD X f id kd (.panic t x) S ds = kd (.panic t x) S ds := rfl
@[simp] theorem nextKD_p {md : Bool} {all r : List Oper} {t : TypeId} {x : D} : nextKD X md all r ds kd (.panic t x) S = kd (.panic t x) S ds := rfl
end
@[simp] theorem contKeys_none : contKeys none = [] := rfl
@[simp] theorem contKeys_dead (k v : Nat) : contKeys (some ⟨k, v, .dead⟩) = [] := rfl
@[simp] theorem contKeys_box (k v : Nat) (cs : List AV) : contKeys (some ⟨k, v, .box cs⟩) = avsKeys cs := rfl
@[simp] theorem contKeys_vec (k v sz : Nat) (rows : List D) : contKeys (some ⟨k, v, .vec sz rows⟩) = [] := rfl
@[simp] theorem contKeys_vvn (k v : Nat) (rows : List (List D)) : contKeys (some ⟨k, v, .vv rows none⟩) = [] := rfl
@[simp] theorem contKeys_vv (k v : Nat) (rows : List (List D)) (x : AV) : contKeys (some ⟨k, v, .vv rows (some x)⟩) = avKeys x := rfl
@[simp] theorem selC_vv (m ρ bor nv rows y) : selC m ρ bor nv (.vv rows y) = .vv rows (y.map (vw m ρ bor nv)) := rfl
@[simp] theorem plainC_vv (rows y) : plainC (.vv rows y) = (rows.all plainDs && (match y with | none => true | some x => plainAV x)) := rfl
@[simp] theorem upC_vv (ρ bs rows y) : upC ρ bs (.vv rows y) = .vv rows (y.map (up ρ bs)) := rfl
@[simp] theorem mapC_vv (τ rows y) : mapC τ (.vv rows y) = .vv rows (y.map τ) := rfl
@[simp] theorem frzR_ite {n0 : Nat} {b : Bool} {c : Prop} [Decidable c] {x y : Option (Out × List (Nat × Cont))} : frzR n0 b (if c then x else y) = if c then frzR n0 b x else frzR n0 b y := by split <;> rfl
@[simp] theorem buildNil_none (P t k0 len ps) : buildNil P t k0 len ps none = none := by
 unfold buildNil
 split <;> simp_all
@[simp] theorem buildNil_d (P t k0 len n x o) : buildNil P t k0 len [(n, .d x)] o = none := by
 unfold buildNil
 split <;> simp_all
@[simp] theorem buildNil_agg (P t k0 len n x o) : buildNil P t k0 len [(n, .agg x)] o = none := by
 unfold buildNil
 split <;> simp_all
@[simp] theorem buildNil_nil (P t k0 len o) : buildNil P t k0 len [] o = none := by
 unfold buildNil
 split <;> simp_all
@[simp] theorem buildNil_two (P t k0 len p q r o) : buildNil P t k0 len (p :: q :: r) o = none := by
 unfold buildNil
 split <;> simp_all
@[simp] theorem buildNil_lit (P t k0 len k v c) : buildNil P t k0 len [(0, .lit (.slice none 0 0))] (some ⟨k, v, c⟩) = (match tk P t with
 | .slice e => match tsz P e, tzeroD P e with
  | some sz, some _ => some (.upd (sz = 1 ∧ len = 1) (.vec k0 (v + 1) 0 1) ⟨k0, v + 1, .box [.lit (.slice none 0 0)]⟩)
  | _, _ => none
 | _ => none) := rfl
attribute [simp] buildSlice0.eq_1
attribute [simp] storeV.eq_1 appV.eq_1
attribute [simp] Gh.go St.opn.eq_1 St.cls.eq_1 St.shut.eq_1 St.adoptV.eq_1
end Go.Am
end
section
namespace Go.Am
open Go
open Go.Proofs
set_option maxRecDepth 10000
@[simp] def keep5 : Nat → List Nat
 | 0 => [1]
 | 1 => [1, 7]
 | 2 => [2]
 | 3 => [1, 15]
 | 4 => [2]
 | 5 => [1, 3, 4]
 | 6 => [3, 4, 5]
 | 7 => [2]
 | _ => []
@[simp] def md5 : Nat → Bool
 | 3 => true
 | _ => false
@[simp] def od5 : Nat → List (List Nat)
 | _ => []
@[simp] def fp5 : FPol := { inpl := [], exp := false, sites := [150, 350], mut_ := [], split := false }
@[simp] def keep6 : Nat → List Nat
 | 0 => [1, 2]
 | 1 => [1, 2, 11]
 | 2 => [4]
 | 3 => [1, 2, 30]
 | 4 => [4]
 | 5 => [1, 2, 5]
 | 6 => [1, 2, 37]
 | 7 => [4]
 | 8 => [1, 2, 7]
 | 9 => [1, 2, 7]
 | 10 => [1, 2, 8]
 | 11 => [8, 65]
 | 12 => [4]
 | 13 => [4]
 | _ => []
@[simp] def md6 : Nat → Bool
 | 3 => true
 | _ => false
@[simp] def od6 : Nat → List (List Nat)
 | 9 => [[1, 2, 3, 4, 6, 7, 8, 9, 10], [0, 3, 6, 7, 8, 9, 10], [0, 3, 6, 7, 8, 9, 10], [0, 1, 2, 6, 7, 8, 9, 10], [0, 6, 7, 8, 9, 10], [6, 7, 8, 9, 10], [0, 1, 2, 3, 4, 5, 8, 9], [0, 1, 2, 3, 4, 5, 8, 9], [0, 1, 2, 3, 4, 5, 6, 7], [0, 1, 2, 3, 4, 5, 6, 7], [0, 1, 2, 3, 4, 5], [], [], []]
 | 11 => [[2, 3, 4, 5, 6, 7], [2, 3, 4, 5, 6, 7], [0, 1, 4], [0, 1, 4], [0, 1, 2, 3], [0, 1], [0, 1], [0, 1], []]
 | _ => []
@[simp] def fp6 : FPol := { inpl := [], exp := false, sites := [200, 450, 2050], mut_ := [], split := false }
@[simp] def keep16 : Nat → List Nat
 | 0 => [1]
 | 1 => [1, 3]
 | 2 => [2]
 | _ => []
@[simp] def md16 : Nat → Bool
 | _ => false
@[simp] def od16 : Nat → List (List Nat)
 | _ => []
@[simp] def fp16 : FPol := { inpl := [], exp := false, sites := [150], mut_ := [], split := false }
@[simp] def keep17 : Nat → List Nat
 | 0 => [1]
 | 1 => [1, 14]
 | 2 => [2]
 | 3 => [1, 3]
 | 4 => [1, 3, 19]
 | 5 => [1, 3]
 | 6 => [1, 3, 4]
 | 7 => [1, 3, 4, 40]
 | 8 => [2]
 | 9 => [1, 3, 4, 54]
 | 10 => [2]
 | 11 => [1, 3, 4, 93]
 | 12 => [2]
 | 13 => [1, 3, 125]
 | 14 => [2]
 | 15 => [2]
 | _ => []
@[simp] def md17 : Nat → Bool
 | 9 => true
 | 11 => true
 | 13 => true
 | _ => false
@[simp] def od17 : Nat → List (List Nat)
 | _ => []
@[simp] def fp17 : FPol := { inpl := [], exp := false, sites := [150, 300], mut_ := [], split := false }
@[simp] def keep18 : Nat → List Nat
 | 0 => [1, 2]
 | 1 => [1, 2, 3]
 | 2 => [1, 2, 3, 4]
 | 3 => [1, 2, 3, 4, 11]
 | 4 => [1, 2, 3, 4]
 | 5 => [1, 2, 3, 4, 6]
 | 6 => [1, 2, 3, 4, 28]
 | 7 => [2]
 | 8 => [1, 2, 3, 4]
 | 9 => [1, 2, 3, 4, 45]
 | 10 => [2]
 | 11 => [2]
 | _ => []
@[simp] def md18 : Nat → Bool
 | _ => false
@[simp] def od18 : Nat → List (List Nat)
 | 5 => [[2, 4, 5, 6, 7, 8, 9, 14], [2, 4, 5, 6, 7, 8, 9, 14], [0, 1, 4, 5, 6, 7, 8, 9, 14], [4, 5, 6, 7, 8, 9, 14], [0, 1, 2, 3, 6, 14], [0, 1, 2, 3, 6, 14], [0, 1, 2, 3, 4, 5, 14], [0, 1, 2, 3, 14], [0, 1, 2, 3, 14], [0, 1, 2, 3, 14], [14], [14], [13, 14], [12, 14, 15], [0, 1, 2, 3, 4, 5, 6, 7, 8, 9, 10, 11, 12, 13], [13], []]
 | _ => []
@[simp] def fp18 : FPol := { inpl := [], exp := false, sites := [150, 200, 350], mut_ := [], split := false }
@[simp] def keep26 : Nat → List Nat
 | 0 => []
 | 1 => [1]
 | 2 => [4, 5]
 | 3 => [0]
 | _ => []
@[simp] def md26 : Nat → Bool
 | _ => false
@[simp] def od26 : Nat → List (List Nat)
 | _ => []
@[simp] def fp26 : FPol := { inpl := [], exp := false, sites := [150, 250], mut_ := [], split := false }
@[simp] def keep27 : Nat → List Nat
 | 0 => [1, 2, 3]
 | 1 => [1, 2, 3]
 | 2 => [1, 2, 3, 4]
 | 3 => [1, 2, 3, 4]
 | 4 => [2, 3]
 | 5 => [2, 3]
 | _ => []
@[simp] def md27 : Nat → Bool
 | _ => false
@[simp] def od27 : Nat → List (List Nat)
 | _ => []
@[simp] def gh27 : Nat → List Gh
 | 2 => [.adopt 400 0 401 8]
 | _ => []
@[simp] def fp27 : FPol := { inpl := [], exp := false, sites := [150, 200, 250, 400, 401], mut_ := [], split := false }
@[simp] def keep28 : Nat → List Nat
 | 0 => [0, 1]
 | 1 => [0, 1, 5]
 | 2 => [0, 1, 5, 11]
 | 3 => [0, 1, 5]
 | 4 => [0, 1, 5, 6]
 | 5 => [0, 1, 5, 6, 36]
 | 6 => [4]
 | 7 => [0, 1, 5, 6, 7]
 | 8 => [0, 1, 5, 6, 7, 41]
 | 9 => [0, 1, 5, 6, 7]
 | 10 => [0, 1, 5, 6, 7, 50]
 | 11 => [4]
 | 12 => [4]
 | _ => []
@[simp] def md28 : Nat → Bool
 | 5 => true
 | _ => false
@[simp] def od28 : Nat → List (List Nat)
 | _ => []
@[simp] def fp28 : FPol := { inpl := [], exp := false, sites := [400], mut_ := [], split := false }
@[simp] def keep41 : Nat → List Nat
 | 0 => [1, 2]
 | 1 => [2, 6, 7]
 | 2 => [4, 5]
 | _ => []
@[simp] def md41 : Nat → Bool
 | _ => false
@[simp] def od41 : Nat → List (List Nat)
 | _ => []
@[simp] def fp41 : FPol := { inpl := [], exp := false, sites := [200], mut_ := [], split := false }
@[simp] def keep42 : Nat → List Nat
 | 0 => [0]
 | 1 => [0, 17]
 | 2 => [2]
 | 3 => [0, 3]
 | 4 => [0, 3, 21]
 | 5 => [0, 3]
 | 6 => [0, 3, 4]
 | 7 => [0, 3, 4, 5]
 | 8 => [0, 3, 58]
 | 9 => [2]
 | 10 => [2]
 | _ => []
@[simp] def md42 : Nat → Bool
 | 1 => true
 | 7 => true
 | 8 => true
 | _ => false
@[simp] def od42 : Nat → List (List Nat)
 | _ => []
@[simp] def fp42 : FPol := { inpl := [], exp := false, sites := [], mut_ := [], split := false }
@[simp] def keep43 : Nat → List Nat
 | 0 => [0]
 | 1 => [0, 3]
 | 2 => [0, 3, 4]
 | 3 => [0, 3, 4, 9]
 | 4 => [0, 3, 4]
 | 5 => [0, 3, 4, 18]
 | 6 => [2]
 | 7 => [2]
 | _ => []
@[simp] def md43 : Nat → Bool
 | _ => false
@[simp] def od43 : Nat → List (List Nat)
 | _ => []
@[simp] def fp43 : FPol := { inpl := [], exp := false, sites := [], mut_ := [], split := false }
@[simp] def keep44 : Nat → List Nat
 | 0 => [0]
 | 1 => [0, 3]
 | 2 => [0, 3, 20]
 | 3 => [0, 3]
 | 4 => [0, 3, 4]
 | 5 => [0, 3, 4, 5, 6, 7]
 | 6 => [0, 3, 4, 6, 7, 59]
 | 7 => [2]
 | 8 => [0, 3, 4, 7, 89]
 | 9 => [2]
 | 10 => [0, 3, 4, 118]
 | 11 => [2]
 | 12 => [0, 3, 4, 8, 9, 10, 11, 12]
 | 13 => [0, 3, 4, 8, 9, 10, 11, 12, 120]
 | 14 => [0, 3, 4, 8, 9, 10, 11, 12, 120, 121]
 | 15 => [0, 3, 4, 8, 9, 10, 11, 12]
 | 16 => [0, 3, 4, 8, 9, 10, 11, 12, 120, 131]
 | 17 => [0, 3, 4, 8, 9, 10, 11, 12]
 | 18 => [0, 3, 4, 8, 9, 10, 11, 12, 120, 139]
 | 19 => [0, 3, 4, 8, 9, 10, 11, 12]
 | 20 => [0, 3, 4, 8, 9, 10, 11, 12, 120, 141]
 | 21 => [0, 3, 4, 8, 9, 10, 11, 12, 120, 141]
 | 22 => [0, 3, 4, 8, 9, 10, 11, 12]
 | 23 => [0, 3, 4, 8, 9, 10, 11, 12, 144]
 | 24 => [0, 3, 4, 8, 9, 10, 11, 12]
 | 25 => [0, 3, 4, 186]
 | 26 => [2]
 | 27 => [0, 3, 4, 13]
 | 28 => [0, 3, 4, 13, 191]
 | 29 => [0, 3, 4, 13]
 | 30 => [0, 3, 4, 13, 200]
 | 31 => [2]
 | 32 => [0, 3, 4, 14]
 | 33 => [0, 3, 4, 14, 205]
 | 34 => [0, 3, 4, 14]
 | 35 => [0, 3, 4, 14, 224]
 | 36 => [2]
 | 37 => [0, 3, 4, 14, 15]
 | 38 => [0, 3, 4, 14, 15, 232]
 | 39 => [0, 3, 4, 14, 15]
 | 40 => [0, 3, 4, 14, 15, 243]
 | 41 => [2]
 | 42 => [0, 3, 4, 16]
 | 43 => [0, 3, 4, 16, 248]
 | 44 => [0, 3, 4, 16]
 | 45 => [0, 3, 4, 16, 257]
 | 46 => [2]
 | 47 => [2]
 | _ => []
@[simp] def md44 : Nat → Bool
 | 6 => true
 | 8 => true
 | 10 => true
 | 35 => true
 | _ => false
@[simp] def od44 : Nat → List (List Nat)
 | 15 => [[4, 5, 6, 7], [4, 5, 6, 7], [4, 5, 6, 7], [4, 5, 6, 7], [0, 1, 2, 3, 8], [0, 1, 2, 3, 8], [0, 1, 2, 3, 8], [0, 1, 2, 3, 8], [4, 5, 6, 7], [], []]
 | 17 => [[3, 4, 5], [3, 4, 5], [3, 4, 5], [0, 1, 2, 6], [0, 1, 2, 6], [0, 1, 2, 6], [3, 4, 5], [], []]
 | 24 => [[3, 4, 5], [3, 4, 5], [3, 4, 5], [0, 1, 2, 6], [0, 1, 2, 6], [0, 1, 2, 6], [3, 4, 5], []]
 | _ => []
@[simp] def fp44 : FPol := { inpl := [], exp := false, sites := [300], mut_ := [], split := false }
@[simp] def keep45 : Nat → List Nat
 | 0 => [0, 1, 4]
 | 1 => [0, 1, 4, 6]
 | 2 => [0, 1, 4, 6, 10]
 | 3 => [0, 1, 4, 6]
 | 4 => [0, 1, 4, 6, 19]
 | 5 => [4, 5]
 | 6 => [4, 5]
 | _ => []
@[simp] def md45 : Nat → Bool
 | _ => false
@[simp] def od45 : Nat → List (List Nat)
 | _ => []
@[simp] def fp45 : FPol := { inpl := [], exp := false, sites := [300], mut_ := [], split := false }
@[simp] def keep46 : Nat → List Nat
 | 0 => [1]
 | 1 => [1, 4]
 | 2 => [2]
 | 3 => [1, 13]
 | 4 => [2]
 | 5 => [2]
 | _ => []
@[simp] def md46 : Nat → Bool
 | _ => false
@[simp] def od46 : Nat → List (List Nat)
 | _ => []
@[simp] def fp46 : FPol := { inpl := [], exp := false, sites := [150], mut_ := [], split := false }
@[simp] def keep47 : Nat → List Nat
 | 0 => [0, 1, 2, 6]
 | 1 => [0, 1, 2, 6, 7]
 | 2 => [0, 1, 2, 6, 7, 12]
 | 3 => [0, 1, 2, 6, 7]
 | 4 => [0, 1, 2, 6, 7, 8]
 | 5 => [0, 1, 2, 6, 7, 8, 24]
 | 6 => [6]
 | 7 => [6]
 | _ => []
@[simp] def md47 : Nat → Bool
 | _ => false
@[simp] def od47 : Nat → List (List Nat)
 | _ => []
@[simp] def fp47 : FPol := { inpl := [], exp := false, sites := [400, 500], mut_ := [], split := false }
@[simp] def keep64 : Nat → List Nat
 | 0 => [0, 2, 3, 4]
 | 1 => [2, 3, 4, 5]
 | 2 => [2, 3, 4, 5, 14]
 | 3 => [2, 3, 4]
 | 4 => [2, 3, 4, 5]
 | 5 => [2, 3, 4, 6]
 | 6 => [2, 3, 4]
 | _ => []
@[simp] def md64 : Nat → Bool
 | _ => false
@[simp] def od64 : Nat → List (List Nat)
 | 3 => [[1, 2], [0, 2, 3], [0, 1, 3, 4], [1, 2], [2], []]
 | _ => []
@[simp] def gh64 : Nat → List Gh
 | 5 => [.adopt 1150 3 1151 8]
 | _ => []
@[simp] def fp64 : FPol := { inpl := [], exp := false, sites := [200, 250, 300, 1150, 1151], mut_ := [], split := false }
@[simp] def keep65 : Nat → List Nat
 | 0 => [0, 1, 4]
 | 1 => [0, 1, 4, 9]
 | 2 => [0, 1, 4, 5, 6]
 | 3 => [0, 1, 4, 5, 16]
 | 4 => [0, 1, 5]
 | 5 => []
 | _ => []
@[simp] def md65 : Nat → Bool
 | _ => false
@[simp] def od65 : Nat → List (List Nat)
 | 5 => [[1, 2, 3, 4, 5], [0, 2, 3, 4, 5, 6, 7], [0, 1, 4, 5], [0, 1, 4, 5], [0, 1, 2, 3, 6, 7], [0, 1, 2, 3, 6, 7], [1, 4, 5], [1, 4, 5], [], []]
 | _ => []
@[simp] def fp65 : FPol := { inpl := [], exp := false, sites := [350], mut_ := [], split := false }
@[simp] def keep66 : Nat → List Nat
 | 0 => [0, 1, 4]
 | 1 => [0, 4, 7, 8, 9]
 | 2 => [0, 4, 7, 8, 9, 10]
 | 3 => [0, 4, 6, 7, 8, 9]
 | 4 => [0, 4, 6, 7, 8, 9]
 | 5 => [0, 4, 6, 7, 8, 9]
 | 6 => [0, 4, 6, 7, 8, 9]
 | 7 => [0, 4, 7, 8, 9]
 | 8 => [0, 4, 7, 8, 9]
 | _ => []
@[simp] def md66 : Nat → Bool
 | _ => false
@[simp] def od66 : Nat → List (List Nat)
 | 4 => [[4, 7, 8], [4, 7, 8], [4, 7, 8], [4, 7, 8], [0, 1, 2, 3, 7, 8], [7, 8], [7, 8], [0, 1, 2, 3, 4, 5, 6], [0, 1, 2, 3, 4, 5, 6], []]
 | 7 => [[1, 2, 3, 4, 5, 6, 7], [0, 5, 6], [0, 5, 6], [0, 5, 6], [0, 5, 6], [0, 1, 2, 3, 4], [0, 1, 2, 3, 4], [0], [], [], []]
 | _ => []
@[simp] def fl66 : Nat → List (Nat × Nat)
 | 4 => [(400, 7)]
 | _ => []
@[simp] def fp66 : FPol := { inpl := [1], exp := false, sites := [400], mut_ := [], split := false }
@[simp] def keep67 : Nat → List Nat
 | 0 => [0, 6, 7, 8]
 | 1 => [0, 6, 7, 8, 9]
 | 2 => [0, 5, 6, 7, 8]
 | 3 => [0, 6, 7, 8]
 | 4 => [0, 6, 7, 8]
 | _ => []
@[simp] def md67 : Nat → Bool
 | _ => false
@[simp] def od67 : Nat → List (List Nat)
 | _ => []
@[simp] def fp67 : FPol := { inpl := [1], exp := false, sites := [350], mut_ := [], split := false }
@[simp] def keep68 : Nat → List Nat
 | 0 => [0, 1]
 | 1 => [0, 1, 5]
 | 2 => [0, 1, 5, 9]
 | 3 => [0, 1, 5]
 | 4 => [0, 1, 5, 27]
 | 5 => [4]
 | 6 => [4]
 | _ => []
@[simp] def md68 : Nat → Bool
 | 4 => true
 | _ => false
@[simp] def od68 : Nat → List (List Nat)
 | _ => []
@[simp] def fp68 : FPol := { inpl := [], exp := false, sites := [], mut_ := [], split := false }
@[simp] def keep73 : Nat → List Nat
 | 0 => [0]
 | 1 => [3, 4]
 | 2 => [3, 12]
 | 3 => [2]
 | 4 => [3, 5]
 | 5 => [5, 21, 22]
 | 6 => [5, 21, 22, 23]
 | 7 => [5, 21, 22]
 | 8 => [5, 21, 22]
 | 9 => [2]
 | _ => []
@[simp] def md73 : Nat → Bool
 | _ => false
@[simp] def od73 : Nat → List (List Nat)
 | 4 => [[3, 4], [3, 4], [3, 4], [0, 1, 2], [0, 1, 2], [], [], []]
 | _ => []
@[simp] def fp73 : FPol := { inpl := [], exp := false, sites := [250, 851], mut_ := [], split := false }
@[simp] def keep80 : Nat → List Nat
 | 0 => [0, 1]
 | 1 => [0, 1, 6, 7]
 | 2 => [0, 1, 6, 7, 8]
 | 3 => [0, 1, 6, 7, 8, 26]
 | 4 => [0, 1, 6, 7, 8]
 | 5 => [0, 1, 6, 7, 8]
 | 6 => [0, 1, 6, 7, 8, 9]
 | 7 => [0, 1, 6, 7, 8, 9, 42, 43, 44]
 | 8 => [0, 1, 6, 7, 8, 9, 42, 43, 44, 45]
 | 9 => [0, 1, 6, 7, 8, 9, 11, 42, 43, 44]
 | 10 => [0, 1, 6, 7, 8, 9, 12, 13, 42, 43, 44]
 | 11 => [0, 1, 6, 7, 8, 9, 13, 42, 43, 44]
 | 12 => [0, 1, 6, 7, 8, 9, 42, 43, 44]
 | 13 => [0, 1, 6, 7, 8, 9, 42, 43, 44]
 | 14 => [0, 1, 6, 7, 8, 9]
 | 15 => [0, 1, 6, 7, 8, 9, 14]
 | 16 => [0, 1, 6, 7, 8, 9, 14, 88]
 | 17 => [0, 1, 6, 7, 8, 9, 14]
 | 18 => [0, 1, 6, 7, 8, 9, 14]
 | 19 => [0, 1, 6, 7, 8, 9, 15]
 | 20 => [0, 1, 6, 7, 8, 9, 15, 111]
 | 21 => [0, 1, 6, 7, 8, 9, 15]
 | 22 => [0, 1, 6, 7, 8, 9, 15, 16, 17]
 | 23 => [0, 1, 6, 7, 8, 9, 15, 17]
 | 24 => [0, 1, 6, 7, 8, 9, 15]
 | 25 => [4, 5]
 | _ => []
@[simp] def md80 : Nat → Bool
 | _ => false
@[simp] def od80 : Nat → List (List Nat)
 | _ => []
@[simp] def fp80 : FPol := { inpl := [], exp := false, sites := [550], mut_ := [], split := false }
@[simp] def keep81 : Nat → List Nat
 | 0 => [0]
 | 1 => [0, 5, 6, 7]
 | 2 => [0, 5, 6, 7, 8]
 | 3 => [0, 4, 5, 6, 7]
 | 4 => [0, 5, 6, 7, 13]
 | 5 => [2]
 | 6 => [0, 5, 6, 7]
 | 7 => [2]
 | _ => []
@[simp] def md81 : Nat → Bool
 | _ => false
@[simp] def od81 : Nat → List (List Nat)
 | _ => []
@[simp] def fp81 : FPol := { inpl := [], exp := false, sites := [], mut_ := [], split := false }
@[simp] def keep82 : Nat → List Nat
 | 0 => []
 | 1 => [0]
 | _ => []
@[simp] def md82 : Nat → Bool
 | _ => false
@[simp] def od82 : Nat → List (List Nat)
 | _ => []
@[simp] def fp82 : FPol := { inpl := [], exp := false, sites := [], mut_ := [], split := false }
@[simp] def keep83 : Nat → List Nat
 | 0 => [0]
 | 1 => [2, 3, 4]
 | _ => []
@[simp] def md83 : Nat → Bool
 | _ => false
@[simp] def od83 : Nat → List (List Nat)
 | _ => []
@[simp] def fp83 : FPol := { inpl := [], exp := false, sites := [], mut_ := [], split := false }
@[simp] def keep84 : Nat → List Nat
 | 0 => [0]
 | 1 => [0, 3]
 | 2 => [0, 3, 11]
 | 3 => [0, 3]
 | 4 => [0, 3, 4]
 | 5 => [0, 3, 4, 5, 6, 7]
 | 6 => [0, 3, 4, 5, 6, 7, 18]
 | 7 => [0, 3, 4, 5, 6, 7, 18]
 | 8 => [0, 3, 4, 5, 6, 7, 18]
 | 9 => [0, 3, 4, 5, 6, 7, 18]
 | 10 => [0, 3, 4, 5, 6, 7, 18]
 | 11 => [2]
 | 12 => [0, 3, 4, 5, 6, 7, 54]
 | 13 => [0, 3, 4, 5, 6, 7]
 | 14 => [0, 3, 4, 5, 6, 7, 58]
 | 15 => [0, 3, 4, 5, 6, 7]
 | 16 => [0, 3, 4, 5, 6, 7, 62]
 | 17 => [0, 3, 4, 5, 6, 7]
 | 18 => [0, 3, 4, 5, 6, 7, 66]
 | 19 => [0, 3, 4, 5, 6, 7]
 | 20 => [0, 3, 4, 5, 6, 7, 75]
 | 21 => [0, 3, 4, 5, 6, 7]
 | 22 => [0, 3, 125]
 | 23 => [2]
 | 24 => [2]
 | _ => []
@[simp] def md84 : Nat → Bool
 | 7 => true
 | 22 => true
 | _ => false
@[simp] def od84 : Nat → List (List Nat)
 | _ => []
@[simp] def fp84 : FPol := { inpl := [], exp := false, sites := [300], mut_ := [], split := false }
@[simp] def keep85 : Nat → List Nat
 | 0 => [1]
 | 1 => [2]
 | _ => []
@[simp] def md85 : Nat → Bool
 | _ => false
@[simp] def od85 : Nat → List (List Nat)
 | _ => []
@[simp] def fp85 : FPol := { inpl := [], exp := false, sites := [150], mut_ := [], split := false }
@[simp] def keep86 : Nat → List Nat
 | 0 => [0]
 | 1 => [0, 14]
 | 2 => [2]
 | 3 => [0, 3]
 | 4 => [0, 3, 4]
 | 5 => [0, 3, 4, 19]
 | 6 => [0, 3, 4]
 | 7 => [0, 3, 4, 28]
 | 8 => [3, 4, 5]
 | 9 => [3, 4, 5, 6]
 | 10 => [3, 4, 5, 6, 36]
 | 11 => [3, 4, 5, 6]
 | 12 => [3, 4, 5, 6, 7]
 | 13 => [3, 4, 5, 6, 7, 8]
 | 14 => [3, 4, 5, 6, 7, 8, 52]
 | 15 => [3, 4, 5, 6, 7, 8]
 | 16 => [3, 4, 5, 6, 7, 8, 55]
 | 17 => [3, 4, 5, 6, 7, 8]
 | 18 => [3, 4, 5, 6, 8]
 | 19 => [3, 4, 5, 6]
 | 20 => [2]
 | 21 => [2]
 | _ => []
@[simp] def md86 : Nat → Bool
 | _ => false
@[simp] def od86 : Nat → List (List Nat)
 | _ => []
@[simp] def fp86 : FPol := { inpl := [], exp := false, sites := [350, 500], mut_ := [], split := false }
@[simp] def keep87 : Nat → List Nat
 | 0 => [0, 2, 4, 6]
 | 1 => [0, 2, 4, 6, 25]
 | 2 => [0, 2, 4, 6, 25, 26]
 | 3 => [0, 4, 6, 7, 8]
 | 4 => [0, 4, 6, 7, 37]
 | 5 => [6]
 | 6 => [0, 4, 6, 44]
 | 7 => [6]
 | 8 => [0, 4, 6, 9, 10]
 | 9 => [0, 4, 6, 9, 10, 58]
 | 10 => [6]
 | 11 => [4, 6, 9, 10, 11]
 | 12 => [4, 6, 9, 10, 11, 69]
 | 13 => [6]
 | 14 => [4, 6, 73]
 | 15 => [6]
 | 16 => [0, 2, 4, 6, 25, 77]
 | 17 => [0, 2, 4, 6, 12]
 | 18 => [0, 2, 4, 6, 12, 83]
 | 19 => [0, 2, 4, 6, 12]
 | 20 => [0, 2, 4, 6, 12, 90]
 | 21 => [0, 2, 4, 6, 12, 13]
 | 22 => [0, 2, 4, 6, 12, 13, 100]
 | 23 => [6]
 | 24 => [0, 2, 4, 6, 12, 14]
 | 25 => [0, 2, 4, 6, 12, 14, 112]
 | 26 => [6]
 | 27 => [0, 2, 4, 6, 25, 114]
 | 28 => [0, 2, 4, 6, 15]
 | 29 => [0, 2, 4, 6, 15, 122]
 | 30 => [6]
 | 31 => [0, 2, 4, 6, 16]
 | 32 => [0, 2, 4, 6, 16, 128]
 | 33 => [0, 2, 4, 6, 16]
 | 34 => [0, 2, 4, 6, 16, 17]
 | 35 => [0, 2, 4, 6, 16, 17, 141]
 | 36 => [6]
 | 37 => [0, 2, 4, 6, 25, 143]
 | 38 => [0, 4, 6, 18, 19]
 | 39 => [0, 4, 6, 18, 153]
 | 40 => [6]
 | 41 => [0, 4, 6, 18, 159]
 | 42 => [6]
 | 43 => [0, 4, 6, 169]
 | 44 => [6]
 | 45 => [0, 4, 6, 20]
 | 46 => [0, 4, 6, 20, 177]
 | 47 => [0, 4, 6, 20]
 | 48 => [0, 4, 6, 20, 21]
 | 49 => [0, 4, 6, 20, 21, 189]
 | 50 => [6]
 | 51 => [6]
 | 52 => [0, 2, 4, 6, 25, 197]
 | 53 => [0, 4, 6, 22]
 | 54 => [0, 4, 6, 22, 205]
 | 55 => [6]
 | 56 => [6]
 | 57 => [0, 2, 4, 6, 25, 213]
 | 58 => [0, 4, 6, 23]
 | 59 => [0, 4, 6, 23, 223]
 | 60 => [6]
 | 61 => [6]
 | 62 => [0, 2, 4, 6, 25, 229]
 | 63 => [4, 6, 232]
 | 64 => [6]
 | 65 => [0, 4, 6, 236]
 | 66 => [6]
 | 67 => [6]
 | _ => []
@[simp] def md87 : Nat → Bool
 | _ => false
@[simp] def od87 : Nat → List (List Nat)
 | _ => []
@[simp] def fp87 : FPol := { inpl := [], exp := false, sites := [300, 400, 450, 600, 750, 800, 850, 950, 1000, 1150, 1200, 1250], mut_ := [], split := false }
@[simp] def keep88 : Nat → List Nat
 | 0 => [1]
 | 1 => [1, 3]
 | 2 => [2]
 | 3 => [1, 12]
 | 4 => [2]
 | 5 => [2]
 | _ => []
@[simp] def md88 : Nat → Bool
 | _ => false
@[simp] def od88 : Nat → List (List Nat)
 | _ => []
@[simp] def fp88 : FPol := { inpl := [], exp := false, sites := [150], mut_ := [], split := false }
@[simp] def keep98 : Nat → List Nat
 | 0 => [0, 4]
 | 1 => [0, 4, 13]
 | 2 => [2, 3, 4]
 | 3 => [4, 5]
 | 4 => [4, 5, 6]
 | 5 => [4, 5, 6, 7]
 | 6 => [4, 5, 6, 7, 8]
 | 7 => [4, 5, 6, 8, 29]
 | 8 => [2, 3, 4]
 | 9 => [4, 5, 6, 8, 33]
 | 10 => [2, 3, 4]
 | 11 => [4, 5, 6, 8, 9, 10]
 | 12 => [4, 5, 6, 8, 9, 10, 50]
 | 13 => [2, 3, 4]
 | 14 => [4, 5, 6, 9]
 | 15 => [4, 5, 6]
 | _ => []
@[simp] def md98 : Nat → Bool
 | _ => false
@[simp] def od98 : Nat → List (List Nat)
 | 6 => [[4, 5, 6, 7, 9], [4, 5, 6, 7, 9], [4, 5, 6, 7, 9], [4, 5, 6, 7, 9], [0, 1, 2, 3, 9], [0, 1, 2, 3, 9], [0, 1, 2, 3, 9], [0, 1, 2, 3, 9], [9], [0, 1, 2, 3, 4, 5, 6, 7, 8], []]
 | 8 => [[1, 2], [0], [0], []]
 | 11 => [[2, 7], [2, 7], [0, 1, 7], [7], [7], [6, 7], [5, 7, 8], [0, 1, 2, 3, 4, 5, 6], [6], []]
 | 13 => [[1, 2], [0, 2, 3], [0, 1], [1], []]
 | _ => []
@[simp] def fp98 : FPol := { inpl := [], exp := false, sites := [200, 300, 400, 500, 550, 950], mut_ := [], split := false }
@[simp] def keep99 : Nat → List Nat
 | 0 => [0, 1, 2, 3]
 | 1 => [0, 1, 2, 3, 8]
 | 2 => [0, 1, 2, 3, 4, 5]
 | 3 => [0, 1, 2, 3, 4, 15]
 | 4 => [0, 1, 2, 4]
 | 5 => []
 | _ => []
@[simp] def md99 : Nat → Bool
 | _ => false
@[simp] def od99 : Nat → List (List Nat)
 | 5 => [[1, 2, 3, 4], [0, 3, 4, 5], [0, 3, 4, 5], [0, 1, 2, 5, 6], [0, 1, 2, 5, 6], [1, 2, 3, 4], [3, 4], []]
 | _ => []
@[simp] def fp99 : FPol := { inpl := [], exp := false, sites := [300], mut_ := [], split := false }
@[simp] def keep100 : Nat → List Nat
 | 0 => [0, 2]
 | 1 => [0, 2]
 | 2 => [0, 2, 3]
 | 3 => [0, 2, 3]
 | 4 => [0, 2, 3]
 | 5 => [0, 2, 3]
 | 6 => [0, 2, 3]
 | 7 => [2, 3]
 | 8 => [2]
 | _ => []
@[simp] def md100 : Nat → Bool
 | _ => false
@[simp] def od100 : Nat → List (List Nat)
 | _ => []
@[simp] def fp100 : FPol := { inpl := [], exp := false, sites := [200, 250], mut_ := [], split := false }
@[simp] def keep101 : Nat → List Nat
 | 0 => [1, 2, 7]
 | 1 => []
 | _ => []
@[simp] def md101 : Nat → Bool
 | _ => false
@[simp] def od101 : Nat → List (List Nat)
 | _ => []
@[simp] def fp101 : FPol := { inpl := [], exp := false, sites := [], mut_ := [], split := false }
@[simp] def keep102 : Nat → List Nat
 | 0 => [0, 1]
 | 1 => [4]
 | _ => []
@[simp] def md102 : Nat → Bool
 | _ => false
@[simp] def od102 : Nat → List (List Nat)
 | _ => []
@[simp] def fp102 : FPol := { inpl := [], exp := false, sites := [], mut_ := [], split := false }
@[simp] def keep103 : Nat → List Nat
 | 0 => [1, 2]
 | 1 => [3]
 | _ => []
@[simp] def md103 : Nat → Bool
 | _ => false
@[simp] def od103 : Nat → List (List Nat)
 | _ => []
@[simp] def fp103 : FPol := { inpl := [], exp := false, sites := [200], mut_ := [], split := false }
@[simp] def keep104 : Nat → List Nat
 | 0 => [0, 3]
 | 1 => [0, 3, 5]
 | 2 => [0, 3, 5, 6]
 | 3 => []
 | 4 => [0, 3, 5, 11]
 | 5 => []
 | 6 => [0, 3, 5, 16]
 | 7 => [0, 3]
 | 8 => []
 | 9 => [0, 3, 5, 25]
 | 10 => []
 | 11 => [0, 3, 5, 30]
 | 12 => [0, 3]
 | 13 => []
 | 14 => [0, 3, 5, 42]
 | 15 => [0, 3]
 | 16 => []
 | 17 => [0, 3, 5, 54]
 | 18 => []
 | 19 => [0, 3, 64]
 | 20 => []
 | _ => []
@[simp] def md104 : Nat → Bool
 | _ => false
@[simp] def od104 : Nat → List (List Nat)
 | 18 => [[5, 6], [5, 6], [5, 6], [5, 6], [5, 6], [0, 1, 2, 3, 4], [0, 1, 2, 3, 4], []]
 | _ => []
@[simp] def fp104 : FPol := { inpl := [1], exp := false, sites := [250], mut_ := [], split := false }
@[simp] def keep112 : Nat → List Nat
 | 0 => [1, 2]
 | 1 => [1, 2, 4]
 | 2 => [2, 4, 5]
 | 3 => [2, 4, 5, 11]
 | 4 => [2, 3]
 | 5 => [2, 3]
 | _ => []
@[simp] def md112 : Nat → Bool
 | _ => false
@[simp] def od112 : Nat → List (List Nat)
 | _ => []
@[simp] def fp112 : FPol := { inpl := [], exp := false, sites := [150, 200], mut_ := [], split := false }
@[simp] def keep113 : Nat → List Nat
 | 0 => [0, 1]
 | 1 => [0, 1, 5]
 | 2 => [1, 5, 12, 13, 14]
 | 3 => [1, 5, 12, 13, 14, 15]
 | 4 => [1, 5, 7, 12, 13, 14]
 | 5 => [1, 5, 7, 8, 12, 13, 14]
 | 6 => [1, 5, 8, 9, 10, 12, 13, 14]
 | 7 => [1, 5, 8, 9, 12, 13, 14, 26]
 | 8 => [1, 5, 8, 12, 13, 14]
 | 9 => [1, 5, 12, 13, 14]
 | 10 => [1, 5, 12, 13, 14]
 | 11 => [4]
 | _ => []
@[simp] def md113 : Nat → Bool
 | _ => false
@[simp] def od113 : Nat → List (List Nat)
 | _ => []
@[simp] def fp113 : FPol := { inpl := [], exp := true, sites := [300, 350, 500], mut_ := [], split := false }
@[simp] def keep121 : Nat → List Nat
 | 0 => [0, 1]
 | 1 => [0, 1, 6, 7]
 | 2 => [0, 1, 6, 7, 8]
 | 3 => [0, 1, 6, 7, 8, 19]
 | 4 => [0, 1, 6, 7, 8]
 | 5 => [0, 1, 6, 7, 8, 9, 10]
 | 6 => [0, 1, 6, 7, 8, 10]
 | 7 => [0, 1, 6, 7, 8]
 | 8 => [4, 5]
 | _ => []
@[simp] def md121 : Nat → Bool
 | _ => false
@[simp] def od121 : Nat → List (List Nat)
 | _ => []
@[simp] def fp121 : FPol := { inpl := [], exp := false, sites := [], mut_ := [], split := false }
@[simp] def keep122 : Nat → List Nat
 | 0 => [0, 3, 5]
 | 1 => [0, 3, 5, 6]
 | 2 => [0, 3, 5, 6, 21]
 | 3 => [0, 3, 5, 6, 21, 22]
 | 4 => [0, 3, 5, 6, 21, 22]
 | 5 => [4, 5]
 | 6 => [0, 3, 5, 6, 21, 28]
 | 7 => [0, 3, 5, 6, 21, 28]
 | 8 => [0, 3, 5, 6, 28]
 | 9 => [0, 3, 5, 6, 7, 8]
 | 10 => [0, 3, 5, 6, 7, 40]
 | 11 => [4, 5]
 | 12 => [0, 3, 5, 6, 7, 46]
 | 13 => [3, 5, 6, 7, 49]
 | 14 => [4, 5]
 | 15 => [3, 5, 9, 10]
 | 16 => [3, 5, 9, 60]
 | 17 => [4, 5]
 | 18 => [4, 5]
 | 19 => [0, 3, 5, 6, 7, 77]
 | 20 => [4, 5]
 | 21 => [0, 3, 5, 7, 81]
 | 22 => [5, 7, 11]
 | 23 => [5, 7, 11, 90]
 | 24 => [4, 5]
 | 25 => [4, 5]
 | 26 => [0, 3, 5, 6, 12, 13]
 | 27 => [0, 3, 5, 6, 12, 13, 106]
 | 28 => [4, 5]
 | 29 => [0, 3, 5, 6, 12, 13, 14]
 | 30 => [0, 3, 5, 6, 12, 13, 14, 112]
 | 31 => [3, 5, 6, 12, 13, 14]
 | 32 => [3, 5, 6, 12, 13, 14, 124]
 | 33 => [4, 5]
 | 34 => [3, 5, 6, 12, 14, 15]
 | 35 => [3, 5, 6, 12, 14, 15, 16]
 | 36 => [5, 6, 12, 14, 15, 16, 127]
 | 37 => [5, 6, 12, 14, 15, 16, 127, 128]
 | 38 => [5, 6, 12, 14, 15, 16, 127, 128]
 | 39 => [5, 6, 12, 14, 15, 16, 127, 128]
 | 40 => [5, 6, 12, 14, 15, 16, 127, 128]
 | 41 => [5, 6, 12, 14, 15, 16, 127, 128]
 | 42 => [5, 6, 12, 14, 15, 16, 127, 128]
 | 43 => [5, 6, 12, 14, 15, 16]
 | 44 => [5, 6, 12, 14, 15, 16, 127, 135]
 | 45 => [5, 6, 12, 14, 15, 16, 127, 135]
 | 46 => [5, 6, 12, 14, 15, 16]
 | 47 => [5, 6, 12, 14, 15, 16, 127, 139]
 | 48 => [5, 6, 12, 14, 15, 16, 127, 139]
 | 49 => [5, 6, 12, 14, 15, 16, 127, 139]
 | 50 => [5, 6, 12, 14, 15, 16, 139]
 | 51 => [5, 6, 12, 14, 15, 16]
 | 52 => [5, 6, 16, 151]
 | 53 => [4, 5]
 | 54 => [4, 5]
 | _ => []
@[simp] def md122 : Nat → Bool
 | _ => false
@[simp] def od122 : Nat → List (List Nat)
 | 11 => [[3], [3], [3], [0, 1, 2], []]
 | 14 => [[1], [0], []]
 | 17 => [[3], [3], [3], [0, 1, 2], []]
 | 20 => [[1], [0], []]
 | 24 => [[1], [0], []]
 | 28 => [[1], [0], []]
 | 33 => [[1], [0], []]
 | 53 => [[1], [0], []]
 | _ => []
@[simp] def fp122 : FPol := { inpl := [], exp := false, sites := [250, 350, 400, 450, 550, 650, 750], mut_ := [], split := false }
@[simp] def keep123 : Nat → List Nat
 | 0 => [0, 2, 4, 6]
 | 1 => [2, 4, 6, 7, 8]
 | 2 => [4, 6, 8, 22]
 | 3 => [6]
 | 4 => [6]
 | _ => []
@[simp] def md123 : Nat → Bool
 | _ => false
@[simp] def od123 : Nat → List (List Nat)
 | _ => []
@[simp] def fp123 : FPol := { inpl := [], exp := false, sites := [300, 400, 500], mut_ := [], split := false }
@[simp] def keep124 : Nat → List Nat
 | 0 => [0, 3, 4]
 | 1 => [0, 3, 4, 5, 6]
 | 2 => [0, 3, 4, 5, 20]
 | 3 => [4]
 | 4 => [0, 3, 4, 5, 26]
 | 5 => [4]
 | 6 => [0, 3, 4, 5, 7]
 | 7 => [0, 3, 4, 5, 7, 34]
 | 8 => [0, 3, 4, 5, 7]
 | 9 => [0, 3, 4, 5, 7, 8, 9]
 | 10 => [0, 3, 4, 5, 7, 8, 54]
 | 11 => [4]
 | 12 => [0, 3, 4, 5, 7, 8, 10]
 | 13 => [0, 3, 4, 5, 7, 8, 10, 60]
 | 14 => [0, 3, 4, 5, 7, 8, 10]
 | 15 => [0, 3, 4, 5, 7, 8, 10, 73]
 | 16 => [4]
 | 17 => [0, 3, 4, 5, 7, 11]
 | 18 => [0, 3, 4, 5, 7, 11, 88]
 | 19 => [4]
 | 20 => [4]
 | _ => []
@[simp] def md124 : Nat → Bool
 | _ => false
@[simp] def od124 : Nat → List (List Nat)
 | 9 => [[2, 3, 4, 5, 6, 11], [2, 3, 4, 5, 6, 11], [0, 1, 4, 11], [0, 1, 4, 11], [0, 1, 2, 3, 11], [0, 1, 11], [0, 1, 11], [11], [11], [10, 11], [9, 11, 12], [0, 1, 2, 3, 4, 5, 6, 7, 8, 9, 10], [10], []]
 | 15 => [[2, 5, 6, 7, 8, 9], [2, 5, 6, 7, 8, 9], [0, 1, 5, 6, 7, 8, 9], [5, 6, 7, 8, 9], [5, 6, 7, 8, 9], [0, 1, 2, 3, 4, 7], [0, 1, 2, 3, 4, 7], [0, 1, 2, 3, 4, 5, 6], [0, 1, 2, 3, 4], [0, 1, 2, 3, 4], []]
 | 17 => [[1, 2, 3, 4, 5, 6, 7, 9], [0, 3, 6, 7, 9], [0, 3, 6, 7, 9], [0, 1, 2, 6, 7, 9], [0, 6, 7, 9], [0, 6, 7, 9], [0, 1, 2, 3, 4, 5, 9], [0, 1, 2, 3, 4, 5, 9], [9], [0, 1, 2, 3, 4, 5, 6, 7, 8], []]
 | _ => []
@[simp] def fp124 : FPol := { inpl := [], exp := false, sites := [250, 300, 350, 500, 650], mut_ := [], split := false }
@[simp] def keep142 : Nat → List Nat
 | 0 => [0]
 | 1 => [0, 3]
 | 2 => [2]
 | 3 => [0, 3, 8]
 | 4 => [2]
 | 5 => [0, 3, 11]
 | 6 => [0]
 | 7 => [0, 3, 27]
 | 8 => [0, 3, 4]
 | 9 => [0, 3, 4, 33]
 | 10 => [0, 4]
 | 11 => [0]
 | 12 => [0, 3, 39]
 | 13 => [0, 5]
 | 14 => [0, 5, 46]
 | 15 => [2]
 | 16 => [0]
 | _ => []
@[simp] def md142 : Nat → Bool
 | 5 => true
 | _ => false
@[simp] def od142 : Nat → List (List Nat)
 | _ => []
@[simp] def fp142 : FPol := { inpl := [], exp := false, sites := [], mut_ := [], split := false }
@[simp] def keep143 : Nat → List Nat
 | 0 => [0]
 | 1 => [2]
 | _ => []
@[simp] def md143 : Nat → Bool
 | _ => false
@[simp] def od143 : Nat → List (List Nat)
 | 1 => [[4, 5, 6, 7], [4, 5, 6, 7], [4, 5, 6, 7], [4, 5, 6, 7], [0, 1, 2, 3], [0, 1, 2, 3], [0, 1, 2, 3], [0, 1, 2, 3], [], []]
 | _ => []
@[simp] def fp143 : FPol := { inpl := [], exp := false, sites := [], mut_ := [], split := false }
@[simp] def keep144 : Nat → List Nat
 | 0 => [0, 3, 4]
 | 1 => [0, 3, 4]
 | 2 => [0, 3, 4, 6]
 | 3 => [0, 3, 4, 6, 13]
 | 4 => [4, 5]
 | 5 => [0, 3, 4, 6]
 | 6 => [0, 3, 4, 16]
 | 7 => [0, 3, 4, 6]
 | 8 => [0, 3, 4, 6]
 | 9 => [0, 3, 4, 6, 26]
 | 10 => [0, 3, 4, 6]
 | 11 => [0, 3, 4, 6, 29]
 | 12 => [4, 5]
 | 13 => [0, 3, 4, 31]
 | 14 => [0, 3, 4, 7, 8, 9]
 | 15 => [0, 3, 4, 7, 8, 9, 42]
 | 16 => [4, 5]
 | 17 => [0, 3, 4, 6, 8]
 | 18 => [0, 3, 4, 6]
 | 19 => [3, 4]
 | 20 => [4, 5]
 | _ => []
@[simp] def md144 : Nat → Bool
 | _ => false
@[simp] def od144 : Nat → List (List Nat)
 | _ => []
@[simp] def fp144 : FPol := { inpl := [], exp := false, sites := [250, 300], mut_ := [], split := false }
@[simp] def keep145 : Nat → List Nat
 | 0 => [0, 4, 5]
 | 1 => [0, 4, 5, 6]
 | 2 => [0, 4, 5]
 | 3 => [0, 4, 5, 23]
 | 4 => [0, 4, 5]
 | 5 => [0, 4, 5]
 | 6 => [0, 4, 5]
 | 7 => [0, 4, 5]
 | _ => []
@[simp] def md145 : Nat → Bool
 | _ => false
@[simp] def od145 : Nat → List (List Nat)
 | 3 => [[4, 5, 6, 7], [4, 5, 6, 7], [4, 5, 6, 7], [4, 5, 6, 7], [0, 1, 2, 3], [0, 1, 2, 3], [0, 1, 2, 3], [0, 1, 2, 3], [], []]
 | _ => []
@[simp] def fp145 : FPol := { inpl := [], exp := false, sites := [], mut_ := [], split := false }
@[simp] def keep146 : Nat → List Nat
 | 0 => [0, 7]
 | 1 => []
 | _ => []
@[simp] def md146 : Nat → Bool
 | _ => false
@[simp] def od146 : Nat → List (List Nat)
 | _ => []
@[simp] def fp146 : FPol := { inpl := [1], exp := false, sites := [], mut_ := [], split := false }
@[simp] def keep147 : Nat → List Nat
 | 0 => [0, 1, 4]
 | 1 => [0, 4, 9]
 | 2 => [0, 4]
 | 3 => [4]
 | _ => []
@[simp] def md147 : Nat → Bool
 | _ => false
@[simp] def od147 : Nat → List (List Nat)
 | _ => []
@[simp] def fp147 : FPol := { inpl := [1], exp := false, sites := [300], mut_ := [], split := false }
@[simp] def keep148 : Nat → List Nat
 | 0 => [0, 2]
 | 1 => [0, 2, 3]
 | 2 => [0, 6]
 | 3 => [0, 2]
 | 4 => [0, 9]
 | 5 => [0, 2]
 | 6 => [0, 2, 14]
 | 7 => [0, 2]
 | _ => []
@[simp] def md148 : Nat → Bool
 | _ => false
@[simp] def od148 : Nat → List (List Nat)
 | _ => []
@[simp] def fp148 : FPol := { inpl := [], exp := false, sites := [], mut_ := [], split := false }
@[simp] def keep149 : Nat → List Nat
 | 0 => [0, 1]
 | 1 => [0, 1, 5]
 | 2 => [0, 1, 5, 10]
 | 3 => [0, 1, 5]
 | 4 => [4]
 | _ => []
@[simp] def md149 : Nat → Bool
 | _ => false
@[simp] def od149 : Nat → List (List Nat)
 | _ => []
@[simp] def fp149 : FPol := { inpl := [1], exp := false, sites := [350], mut_ := [], split := false }
@[simp] def keep150 : Nat → List Nat
 | 0 => []
 | _ => []
@[simp] def md150 : Nat → Bool
 | _ => false
@[simp] def od150 : Nat → List (List Nat)
 | _ => []
@[simp] def fp150 : FPol := { inpl := [], exp := false, sites := [], mut_ := [], split := false }
@[simp] def keep151 : Nat → List Nat
 | 0 => [0, 1]
 | 1 => [0, 1, 7, 8]
 | 2 => [0, 1, 7, 8, 9]
 | 3 => [0, 1, 5, 7, 8]
 | 4 => [0, 1, 5, 7, 8, 16]
 | 5 => [4]
 | 6 => [0, 1, 7, 8]
 | 7 => [4]
 | _ => []
@[simp] def md151 : Nat → Bool
 | _ => false
@[simp] def od151 : Nat → List (List Nat)
 | _ => []
@[simp] def fp151 : FPol := { inpl := [], exp := false, sites := [], mut_ := [], split := false }
@[simp] def keep152 : Nat → List Nat
 | 0 => [0, 3]
 | 1 => [0, 3, 4]
 | 2 => [0, 3, 4]
 | 3 => [0, 3, 5]
 | 4 => []
 | _ => []
@[simp] def md152 : Nat → Bool
 | _ => false
@[simp] def od152 : Nat → List (List Nat)
 | 4 => [[1, 2, 4, 6, 7], [0, 4, 6, 7], [0, 4, 6, 7], [4, 6, 7], [0, 1, 2, 3, 6, 7], [6, 7], [0, 1, 2, 3, 4, 5], [0, 1, 2, 3, 4, 5], []]
 | _ => []
@[simp] def fp152 : FPol := { inpl := [1], exp := false, sites := [250, 300], mut_ := [], split := false }
@[simp] def keep153 : Nat → List Nat
 | 0 => [0, 3]
 | 1 => [0, 3, 7, 8, 9]
 | 2 => [0, 3, 7, 8, 9, 10]
 | 3 => [0, 3, 4, 5, 7, 8, 9]
 | 4 => [0, 3, 4, 5, 7, 8, 9, 18]
 | 5 => [0, 3, 5, 7, 8, 9]
 | 6 => [0, 3, 7, 8, 9]
 | 7 => [0, 3, 7, 8, 9]
 | _ => []
@[simp] def md153 : Nat → Bool
 | _ => false
@[simp] def od153 : Nat → List (List Nat)
 | _ => []
@[simp] def fp153 : FPol := { inpl := [1], exp := false, sites := [250], mut_ := [], split := false }
@[simp] def keep154 : Nat → List Nat
 | 0 => [0, 3]
 | 1 => []
 | _ => []
@[simp] def md154 : Nat → Bool
 | _ => false
@[simp] def od154 : Nat → List (List Nat)
 | 1 => [[1, 4, 5], [0, 4, 5], [4, 5], [4, 5], [0, 1, 2, 3], [0, 1, 2, 3], []]
 | _ => []
@[simp] def fp154 : FPol := { inpl := [1], exp := false, sites := [250], mut_ := [], split := false }
@[simp] def keep155 : Nat → List Nat
 | 0 => [0, 3]
 | 1 => [0, 3, 4]
 | 2 => [0, 3, 4]
 | 3 => [0, 3]
 | 4 => [0, 3, 31, 32, 33]
 | 5 => [0, 3, 31, 32, 33, 34]
 | 6 => [0, 3, 6, 31, 32, 33]
 | 7 => [0, 3, 31, 32, 33]
 | 8 => [0, 3, 31, 32, 33]
 | 9 => []
 | _ => []
@[simp] def md155 : Nat → Bool
 | _ => false
@[simp] def od155 : Nat → List (List Nat)
 | _ => []
@[simp] def fp155 : FPol := { inpl := [1], exp := false, sites := [250, 300, 400], mut_ := [], split := false }
@[simp] def keep156 : Nat → List Nat
 | 0 => [0, 3]
 | 1 => []
 | _ => []
@[simp] def md156 : Nat → Bool
 | _ => false
@[simp] def od156 : Nat → List (List Nat)
 | 1 => [[1, 4, 5], [0, 4, 5], [4, 5], [4, 5], [0, 1, 2, 3], [0, 1, 2, 3], []]
 | _ => []
@[simp] def fp156 : FPol := { inpl := [1], exp := false, sites := [250], mut_ := [], split := false }
@[simp] def keep157 : Nat → List Nat
 | 0 => [0, 1]
 | 1 => [0]
 | 2 => []
 | _ => []
@[simp] def md157 : Nat → Bool
 | _ => false
@[simp] def od157 : Nat → List (List Nat)
 | _ => []
@[simp] def fp157 : FPol := { inpl := [1], exp := false, sites := [], mut_ := [], split := false }
@[simp] def keep158 : Nat → List Nat
 | 0 => [0, 3]
 | 1 => [0, 3, 4]
 | 2 => [0, 3, 4]
 | 3 => [0, 3, 4, 21, 22, 23]
 | 4 => [0, 3, 4, 21, 22, 23, 24]
 | 5 => [0, 3, 4, 5, 6, 21, 22, 23]
 | 6 => [0, 3, 4, 5, 6, 7, 8, 21, 22, 23]
 | 7 => [0, 3, 4, 5, 6, 7, 21, 22, 23]
 | 8 => [0, 3, 4, 5, 7, 21, 22, 23]
 | 9 => [0, 3, 4, 21, 22, 23]
 | 10 => [0, 3, 4, 21, 22, 23]
 | _ => []
@[simp] def md158 : Nat → Bool
 | _ => false
@[simp] def od158 : Nat → List (List Nat)
 | 2 => [[2, 3], [2, 3], [0, 1], [0, 1], []]
 | 8 => [[2, 4, 7, 8], [2, 4, 7, 8], [0, 1, 4, 7, 8], [4, 7, 8], [0, 1, 2, 3, 7, 8], [7, 8], [7, 8], [0, 1, 2, 3, 4, 5, 6], [0, 1, 2, 3, 4, 5, 6], []]
 | 9 => [[1, 2, 3, 4, 5, 7, 8, 10, 11, 12, 13, 14, 15], [0, 3, 7, 8, 10, 11, 12, 13, 14, 15], [0, 3, 7, 8, 10, 11, 12, 13, 14, 15], [0, 1, 2, 7, 8, 10, 11, 12, 13, 14, 15], [0, 7, 8, 10, 11, 12, 13, 14, 15], [0, 7, 8, 10, 11, 12, 13, 14, 15], [7, 8, 10, 11, 12, 13, 14, 15], [0, 1, 2, 3, 4, 5, 6, 10, 11, 12, 13, 14, 15], [0, 1, 2, 3, 4, 5, 6, 10, 11, 12, 13, 14, 15], [10, 11, 12, 13, 14, 15], [0, 1, 2, 3, 4, 5, 6, 7, 8, 9, 12], [0, 1, 2, 3, 4, 5, 6, 7, 8, 9, 12], [0, 1, 2, 3, 4, 5, 6, 7, 8, 9, 10, 11], [0, 1, 2, 3, 4, 5, 6, 7, 8, 9], [0, 1, 2, 3, 4, 5, 6, 7, 8, 9], [0, 1, 2, 3, 4, 5, 6, 7, 8, 9], []]
 | _ => []
@[simp] def fp158 : FPol := { inpl := [1], exp := false, sites := [250, 300, 450], mut_ := [], split := false }
@[simp] def keep163 : Nat → List Nat
 | 0 => []
 | 1 => [0]
 | _ => []
@[simp] def md163 : Nat → Bool
 | _ => false
@[simp] def od163 : Nat → List (List Nat)
 | _ => []
@[simp] def fp163 : FPol := { inpl := [], exp := false, sites := [], mut_ := [], split := false }
@[simp] def keep164 : Nat → List Nat
 | 0 => [0, 1]
 | 1 => [0, 1, 7, 8]
 | 2 => [0, 1, 7, 8, 9]
 | 3 => [0, 1, 5, 7, 8]
 | 4 => [0, 1, 5, 7, 8, 16]
 | 5 => [4]
 | 6 => [0, 1, 7, 8]
 | 7 => [4]
 | _ => []
@[simp] def md164 : Nat → Bool
 | _ => false
@[simp] def od164 : Nat → List (List Nat)
 | _ => []
@[simp] def fp164 : FPol := { inpl := [], exp := false, sites := [], mut_ := [], split := false }
@[simp] def keep165 : Nat → List Nat
 | 0 => [1, 2]
 | 1 => [3]
 | _ => []
@[simp] def md165 : Nat → Bool
 | _ => false
@[simp] def od165 : Nat → List (List Nat)
 | _ => []
@[simp] def fp165 : FPol := { inpl := [], exp := false, sites := [200], mut_ := [], split := false }
@[simp] def keep166 : Nat → List Nat
 | 0 => [0]
 | 1 => [0, 3]
 | 2 => [0, 3, 4]
 | 3 => [0, 3, 4, 5]
 | 4 => [0, 3, 4, 5, 6]
 | 5 => [0, 3, 4, 5, 6, 16]
 | 6 => [0, 3, 4, 5, 6]
 | 7 => [0, 3, 4, 5, 6, 7]
 | 8 => [0, 3, 4, 5, 6, 7]
 | 9 => [0, 3, 4, 5, 6, 8]
 | 10 => [0, 3, 5, 6, 8]
 | 11 => [0, 3, 4, 5, 6]
 | 12 => [0, 3, 37]
 | 13 => [2]
 | 14 => [0, 9]
 | 15 => [0, 9, 10]
 | 16 => [0, 9, 10]
 | 17 => [0, 9, 10, 12]
 | 18 => [0, 9, 10, 12, 53]
 | 19 => [0, 9, 10, 12]
 | 20 => [0, 9, 10, 11, 12]
 | 21 => [0, 9, 10, 11, 12, 60]
 | 22 => [0, 9, 10, 11, 12, 66]
 | 23 => [0, 9, 10, 11, 12]
 | 24 => [0, 9, 10, 12]
 | 25 => [0, 9, 10, 12]
 | 26 => [0, 9, 10, 12]
 | 27 => [0, 9, 10, 12, 91]
 | 28 => [0, 9, 10, 12]
 | 29 => [0, 9, 10, 11, 12]
 | 30 => [0, 9, 10, 11, 98]
 | 31 => [9]
 | 32 => [2]
 | _ => []
@[simp] def md166 : Nat → Bool
 | 18 => true
 | 27 => true
 | _ => false
@[simp] def od166 : Nat → List (List Nat)
 | _ => []
@[simp] def fp166 : FPol := { inpl := [], exp := false, sites := [2150], mut_ := [], split := false }
@[simp] def keep167 : Nat → List Nat
 | 0 => [0, 1]
 | 1 => [4, 5]
 | _ => []
@[simp] def md167 : Nat → Bool
 | _ => false
@[simp] def od167 : Nat → List (List Nat)
 | _ => []
@[simp] def fp167 : FPol := { inpl := [], exp := false, sites := [], mut_ := [], split := false }
@[simp] def keep187 : Nat → List Nat
 | 0 => [0, 1, 4]
 | 1 => [1, 4, 6]
 | 2 => [1, 4, 6, 7]
 | 3 => [1, 4, 6, 7, 13]
 | 4 => [1, 4, 6, 7]
 | 5 => [1, 4, 6, 7, 26]
 | 6 => [4, 5]
 | 7 => [4, 5]
 | _ => []
@[simp] def md187 : Nat → Bool
 | 5 => true
 | _ => false
@[simp] def od187 : Nat → List (List Nat)
 | _ => []
@[simp] def fp187 : FPol := { inpl := [], exp := false, sites := [300], mut_ := [], split := false }
@[simp] def keep188 : Nat → List Nat
 | 0 => [0, 3, 4]
 | 1 => [3, 4, 5, 6]
 | 2 => [3, 4, 6, 19]
 | 3 => [4]
 | 4 => [4]
 | _ => []
@[simp] def md188 : Nat → Bool
 | _ => false
@[simp] def od188 : Nat → List (List Nat)
 | _ => []
@[simp] def fp188 : FPol := { inpl := [], exp := false, sites := [250, 300, 400], mut_ := [], split := false }
@[simp] def keep199 : Nat → List Nat
 | 0 => [0, 1]
 | 1 => [4]
 | _ => []
@[simp] def md199 : Nat → Bool
 | _ => false
@[simp] def od199 : Nat → List (List Nat)
 | _ => []
@[simp] def fp199 : FPol := { inpl := [], exp := false, sites := [], mut_ := [], split := false }
@[simp] def keep200 : Nat → List Nat
 | 0 => [0, 1]
 | 1 => [4]
 | _ => []
@[simp] def md200 : Nat → Bool
 | _ => false
@[simp] def od200 : Nat → List (List Nat)
 | _ => []
@[simp] def fp200 : FPol := { inpl := [], exp := false, sites := [], mut_ := [], split := false }
@[simp] def keep201 : Nat → List Nat
 | 0 => [0, 1]
 | 1 => [4]
 | _ => []
@[simp] def md201 : Nat → Bool
 | _ => false
@[simp] def od201 : Nat → List (List Nat)
 | _ => []
@[simp] def fp201 : FPol := { inpl := [], exp := false, sites := [], mut_ := [], split := false }
@[simp] def keep202 : Nat → List Nat
 | 0 => [0]
 | 1 => [2]
 | _ => []
@[simp] def md202 : Nat → Bool
 | 1 => true
 | _ => false
@[simp] def od202 : Nat → List (List Nat)
 | _ => []
@[simp] def fp202 : FPol := { inpl := [], exp := false, sites := [], mut_ := [], split := false }
@[simp] def keep203 : Nat → List Nat
 | 0 => [0, 1]
 | 1 => [0, 1, 5]
 | 2 => [0, 1, 5, 16]
 | 3 => [0, 1, 5]
 | 4 => [4]
 | _ => []
@[simp] def md203 : Nat → Bool
 | 2 => true
 | _ => false
@[simp] def od203 : Nat → List (List Nat)
 | _ => []
@[simp] def fp203 : FPol := { inpl := [], exp := false, sites := [], mut_ := [], split := false }
@[simp] def keep204 : Nat → List Nat
 | 0 => [0]
 | 1 => [2]
 | _ => []
@[simp] def md204 : Nat → Bool
 | 1 => true
 | _ => false
@[simp] def od204 : Nat → List (List Nat)
 | _ => []
@[simp] def fp204 : FPol := { inpl := [], exp := false, sites := [], mut_ := [], split := false }
@[simp] def keep205 : Nat → List Nat
 | 0 => [0]
 | 1 => [2]
 | _ => []
@[simp] def md205 : Nat → Bool
 | _ => false
@[simp] def od205 : Nat → List (List Nat)
 | _ => []
@[simp] def fp205 : FPol := { inpl := [], exp := false, sites := [], mut_ := [], split := false }
@[simp] def keep206 : Nat → List Nat
 | 0 => [0]
 | 1 => [2]
 | _ => []
@[simp] def md206 : Nat → Bool
 | _ => false
@[simp] def od206 : Nat → List (List Nat)
 | _ => []
@[simp] def fp206 : FPol := { inpl := [], exp := false, sites := [], mut_ := [], split := false }
@[simp] def keep207 : Nat → List Nat
 | 0 => [0]
 | 1 => [0, 5, 6]
 | 2 => [0, 5, 6, 16, 17, 18]
 | 3 => [0, 5, 6, 16, 17, 18, 19]
 | 4 => [0, 5, 6, 8, 16, 17, 18]
 | 5 => [0, 5, 6, 8, 16, 17, 18, 25]
 | 6 => [0, 5, 6, 16, 17, 18]
 | 7 => [0, 5, 6, 16, 17, 18]
 | 8 => [0, 5, 6, 9]
 | 9 => [0, 5, 6, 9, 59]
 | 10 => [2, 3, 4]
 | 11 => [0, 5, 6, 9, 10]
 | 12 => [0, 5, 9, 10, 11]
 | 13 => [0, 5, 9, 10, 11, 63]
 | 14 => [0, 5, 9, 10, 11]
 | 15 => [0, 5, 9, 10, 11, 12]
 | 16 => [0, 5, 9, 10, 11, 12, 75]
 | 17 => [2, 3, 4]
 | 18 => [0, 5, 9, 10, 11]
 | 19 => [2, 3, 4]
 | _ => []
@[simp] def md207 : Nat → Bool
 | 9 => true
 | _ => false
@[simp] def od207 : Nat → List (List Nat)
 | 6 => [[2, 3, 4], [2, 3, 4], [0, 1, 5], [0, 1, 5], [0, 1, 5], [2, 3, 4], []]
 | _ => []
@[simp] def fp207 : FPol := { inpl := [], exp := false, sites := [350, 500], mut_ := [], split := false }
@[simp] def keep208 : Nat → List Nat
 | 0 => [0]
 | 1 => [0, 5, 6, 7]
 | 2 => [0, 5, 6, 7, 8]
 | 3 => [0, 4, 5, 6, 7]
 | 4 => [0, 5, 6, 7, 13]
 | 5 => [2]
 | 6 => [0, 5, 6, 7]
 | 7 => [18]
 | 8 => [2]
 | 9 => [2]
 | _ => []
@[simp] def md208 : Nat → Bool
 | _ => false
@[simp] def od208 : Nat → List (List Nat)
 | _ => []
@[simp] def fp208 : FPol := { inpl := [], exp := false, sites := [], mut_ := [], split := false }
@[simp] def keep209 : Nat → List Nat
 | 0 => [0, 1]
 | 1 => [0, 8]
 | 2 => [4]
 | 3 => []
 | 4 => [4]
 | _ => []
@[simp] def md209 : Nat → Bool
 | _ => false
@[simp] def od209 : Nat → List (List Nat)
 | _ => []
@[simp] def fp209 : FPol := { inpl := [1], exp := false, sites := [], mut_ := [], split := false }
@[simp] def keep210 : Nat → List Nat
 | 0 => [0, 3]
 | 1 => []
 | _ => []
@[simp] def md210 : Nat → Bool
 | _ => false
@[simp] def od210 : Nat → List (List Nat)
 | _ => []
@[simp] def fp210 : FPol := { inpl := [], exp := false, sites := [250], mut_ := [], split := false }
@[simp] def keep211 : Nat → List Nat
 | 0 => [0, 2]
 | 1 => [2]
 | _ => []
@[simp] def md211 : Nat → Bool
 | _ => false
@[simp] def od211 : Nat → List (List Nat)
 | 1 => [[4, 5, 6, 7], [4, 5, 6, 7], [4, 5, 6, 7], [4, 5, 6, 7], [0, 1, 2, 3], [0, 1, 2, 3], [0, 1, 2, 3], [0, 1, 2, 3], [], [], []]
 | _ => []
@[simp] def fp211 : FPol := { inpl := [1], exp := false, sites := [200], mut_ := [], split := false }
@[simp] def keep212 : Nat → List Nat
 | 0 => [0, 2]
 | 1 => [0, 2, 3]
 | 2 => [0, 2, 3, 8]
 | 3 => [2, 3]
 | 4 => [2]
 | _ => []
@[simp] def md212 : Nat → Bool
 | _ => false
@[simp] def od212 : Nat → List (List Nat)
 | _ => []
@[simp] def fp212 : FPol := { inpl := [1], exp := false, sites := [200, 250], mut_ := [], split := false }
@[simp] def keep213 : Nat → List Nat
 | 0 => [0, 1, 4]
 | 1 => [0, 1, 4, 5]
 | 2 => [0, 1, 4, 5]
 | 3 => [0, 1, 4, 5, 26]
 | 4 => [0, 1, 4]
 | 5 => [0, 1, 4, 31]
 | 6 => [0, 1, 4]
 | 7 => [0, 1, 4, 6]
 | 8 => [0, 1, 4, 6, 7]
 | 9 => [0, 1, 4, 6, 7, 37]
 | 10 => [0, 1, 4, 6, 8, 9]
 | 11 => [0, 1, 4, 6, 8, 56]
 | 12 => [0, 1, 4, 6, 8]
 | 13 => [0, 1, 4, 6, 7]
 | 14 => [0, 1, 4, 6, 7]
 | 15 => [0, 1, 6, 7, 63, 64, 65]
 | 16 => [0, 1, 6, 7, 63, 64, 65, 66]
 | 17 => [0, 1, 6, 7, 11, 63, 64, 65]
 | 18 => [0, 1, 6, 7, 63, 64, 65]
 | 19 => [0, 1, 6, 7, 63, 64, 65]
 | _ => []
@[simp] def md213 : Nat → Bool
 | _ => false
@[simp] def od213 : Nat → List (List Nat)
 | 18 => [[1, 2, 3, 4, 5, 6, 7, 8, 9, 10, 11, 12, 13, 14, 15, 16, 17, 18, 19, 20, 21], [0, 5, 6, 7, 8, 9, 10, 11, 12, 13, 14, 15, 16, 17, 18, 19, 20], [0, 5, 6, 7, 8, 9, 10, 11, 12, 13, 14, 15, 16, 17, 18, 19, 20], [0, 5, 6, 7, 8, 9, 10, 11, 12, 13, 14, 15, 16, 17, 18, 19, 20], [0, 5, 6, 7, 8, 9, 10, 11, 12, 13, 14, 15, 16, 17, 18, 19, 20], [0, 1, 2, 3, 4, 7, 8, 9, 10, 11, 12, 13, 14, 15, 16, 17, 18], [0, 1, 2, 3, 4, 7, 8, 9, 10, 11, 12, 13, 14, 15, 16, 17, 18], [0, 1, 2, 3, 4, 5, 6, 9, 10, 11, 12, 13, 14, 15, 16, 17, 18], [0, 1, 2, 3, 4, 5, 6, 9, 10, 11, 12, 13, 14, 15, 16, 17, 18], [0, 1, 2, 3, 4, 5, 6, 7, 8, 10, 11, 12, 13, 14, 15, 16, 17, 18], [0, 1, 2, 3, 4, 5, 6, 7, 8, 9, 12, 13, 14, 15, 16, 17, 18], [0, 1, 2, 3, 4, 5, 6, 7, 8, 9, 12, 13, 14, 15, 16, 17, 18], [0, 1, 2, 3, 4, 5, 6, 7, 8, 9, 10, 11, 14, 15, 16, 17, 18], [0, 1, 2, 3, 4, 5, 6, 7, 8, 9, 10, 11, 14, 15, 16, 17, 18], [0, 1, 2, 3, 4, 5, 6, 7, 8, 9, 10, 11, 12, 13, 16, 17, 18], [0, 1, 2, 3, 4, 5, 6, 7, 8, 9, 10, 11, 12, 13, 16, 17, 18], [0, 1, 2, 3, 4, 5, 6, 7, 8, 9, 10, 11, 12, 13, 14, 15, 17, 18], [0, 1, 2, 3, 4, 5, 6, 7, 8, 9, 10, 11, 12, 13, 14, 15, 16], [0, 1, 2, 3, 4, 5, 6, 7, 8, 9, 10, 11, 12, 13, 14, 15, 16], [0, 1, 2, 3, 4], [0, 1, 2, 3, 4], [0], [], [], []]
 | _ => []
@[simp] def fp213 : FPol := { inpl := [], exp := false, sites := [300, 350, 400, 650], mut_ := [], split := false }
@[simp] def keep214 : Nat → List Nat
 | 0 => [0, 1]
 | 1 => [4]
 | _ => []
@[simp] def md214 : Nat → Bool
 | _ => false
@[simp] def od214 : Nat → List (List Nat)
 | _ => []
@[simp] def fp214 : FPol := { inpl := [1], exp := false, sites := [], mut_ := [], split := false }
@[simp] def keep215 : Nat → List Nat
 | 0 => [0, 1]
 | 1 => [1, 5]
 | 2 => [4]
 | _ => []
@[simp] def md215 : Nat → Bool
 | _ => false
@[simp] def od215 : Nat → List (List Nat)
 | _ => []
@[simp] def fp215 : FPol := { inpl := [1], exp := false, sites := [350], mut_ := [], split := false }
@[simp] def keep216 : Nat → List Nat
 | 0 => [0, 2]
 | 1 => [0, 2, 3]
 | 2 => [0, 2, 3]
 | 3 => [0, 2, 3, 4]
 | 4 => [0, 2, 3, 4]
 | 5 => [2, 3, 4]
 | 6 => [2, 4]
 | 7 => [2]
 | _ => []
@[simp] def md216 : Nat → Bool
 | _ => false
@[simp] def od216 : Nat → List (List Nat)
 | _ => []
@[simp] def fp216 : FPol := { inpl := [1], exp := false, sites := [200, 250, 300], mut_ := [], split := false }
@[simp] def keep217 : Nat → List Nat
 | 0 => [0, 2, 4, 6]
 | 1 => [0, 2, 6, 7]
 | 2 => [0, 6, 7]
 | 3 => [6]
 | _ => []
@[simp] def md217 : Nat → Bool
 | _ => false
@[simp] def od217 : Nat → List (List Nat)
 | _ => []
@[simp] def fp217 : FPol := { inpl := [1], exp := false, sites := [300, 400], mut_ := [], split := false }
@[simp] def keep218 : Nat → List Nat
 | 0 => [0, 4, 5]
 | 1 => [0, 4, 5, 9]
 | 2 => [0, 4, 5]
 | 3 => [4]
 | 4 => [6]
 | 5 => [4]
 | 6 => [6]
 | _ => []
@[simp] def md218 : Nat → Bool
 | 5 => true
 | _ => false
@[simp] def od218 : Nat → List (List Nat)
 | 5 => [[8, 9], [8, 9], [8, 9], [8, 9], [8, 9], [8, 9], [8, 9], [8, 9], [0, 1, 2, 3, 4, 5, 6, 7], [0, 1, 2, 3, 4, 5, 6, 7], []]
 | _ => []
@[simp] def fp218 : FPol := { inpl := [1], exp := false, sites := [300, 350], mut_ := [], split := false }
@[simp] def keep219 : Nat → List Nat
 | 0 => [0, 3]
 | 1 => [0, 3, 6]
 | 2 => [4]
 | 3 => [0, 3, 10]
 | 4 => [4]
 | 5 => [0, 3, 14]
 | 6 => [4]
 | 7 => [0, 3, 32]
 | 8 => [4]
 | 9 => [3, 5]
 | 10 => []
 | 11 => [3, 5, 47]
 | 12 => []
 | 13 => [4]
 | 14 => [3, 5, 66]
 | 15 => []
 | 16 => [3, 5, 83]
 | 17 => []
 | 18 => [4]
 | _ => []
@[simp] def md219 : Nat → Bool
 | 11 => true
 | _ => false
@[simp] def od219 : Nat → List (List Nat)
 | 6 => [[1, 2, 3, 4, 5, 6, 7], [0, 2, 3, 4, 5, 7], [0, 1, 4, 5, 7], [0, 1, 4, 5, 7], [0, 1, 2, 3, 7], [0, 1, 2, 3, 7], [0, 7], [0, 1, 2, 3, 4, 5, 6], [], []]
 | 10 => [[2, 3], [2, 3], [0, 1], [0, 1], []]
 | 12 => [[2, 3], [2, 3], [0, 1], [0, 1], []]
 | 15 => [[1, 2, 3, 5, 6], [0, 5, 6], [0, 5, 6], [0, 5, 6], [5, 6], [0, 1, 2, 3, 4], [0, 1, 2, 3, 4], []]
 | 17 => [[2, 3], [2, 3], [0, 1], [0, 1], []]
 | _ => []
@[simp] def fp219 : FPol := { inpl := [1], exp := false, sites := [250], mut_ := [], split := false }
@[simp] def keep220 : Nat → List Nat
 | 0 => [1]
 | 1 => [2]
 | _ => []
@[simp] def md220 : Nat → Bool
 | _ => false
@[simp] def od220 : Nat → List (List Nat)
 | _ => []
@[simp] def fp220 : FPol := { inpl := [], exp := false, sites := [150], mut_ := [], split := false }
@[simp] def keep221 : Nat → List Nat
 | 0 => [2, 3, 4]
 | 1 => [3, 4, 6]
 | 2 => [4, 6, 7]
 | 3 => [4, 6, 7, 15]
 | 4 => [4, 5]
 | 5 => [4, 5]
 | _ => []
@[simp] def md221 : Nat → Bool
 | _ => false
@[simp] def od221 : Nat → List (List Nat)
 | _ => []
@[simp] def fp221 : FPol := { inpl := [], exp := false, sites := [200, 250, 300], mut_ := [], split := false }
@[simp] def keep222 : Nat → List Nat
 | 0 => [0, 1]
 | 1 => [4]
 | _ => []
@[simp] def md222 : Nat → Bool
 | _ => false
@[simp] def od222 : Nat → List (List Nat)
 | _ => []
@[simp] def fp222 : FPol := { inpl := [], exp := false, sites := [], mut_ := [], split := false }
@[simp] def keep228 : Nat → List Nat
 | 0 => [0, 1]
 | 1 => [0, 1, 5]
 | 2 => [0, 1, 5, 6]
 | 3 => [0, 1, 5, 6, 14]
 | 4 => [0, 1, 5, 6, 14, 15, 16]
 | 5 => [0, 1, 5, 6, 7, 8, 14]
 | 6 => [0, 1, 5, 6, 7, 14, 21]
 | 7 => [0, 1, 5, 6, 7, 14, 23]
 | 8 => [0, 1, 5, 6, 14]
 | 9 => [0, 1, 5, 6, 14]
 | 10 => [0, 1, 5, 6, 7, 14, 33]
 | 11 => [0, 1, 5, 6, 14]
 | 12 => [0, 5, 6, 36]
 | 13 => [0, 5]
 | 14 => [0, 5, 9]
 | 15 => [0, 9, 47, 48, 49]
 | 16 => [0, 9, 47, 48, 49, 50]
 | 17 => [0, 9, 10, 11, 47, 48, 49]
 | 18 => [0, 9, 47, 48, 49]
 | 19 => [0, 9, 47, 48, 49]
 | 20 => [4]
 | _ => []
@[simp] def md228 : Nat → Bool
 | _ => false
@[simp] def od228 : Nat → List (List Nat)
 | _ => []
@[simp] def fp228 : FPol := { inpl := [], exp := false, sites := [650, 700, 2400], mut_ := [], split := false }
@[simp] def keep229 : Nat → List Nat
 | 0 => [0]
 | 1 => [0, 5]
 | 2 => [6]
 | 3 => [6, 7]
 | 4 => [6, 7]
 | 5 => [6, 7]
 | 6 => [6, 7]
 | 7 => [6, 7]
 | 8 => [6, 7]
 | 9 => [6, 7]
 | 10 => [7]
 | 11 => [2]
 | 12 => [2]
 | 13 => [2]
 | _ => []
@[simp] def md229 : Nat → Bool
 | _ => false
@[simp] def od229 : Nat → List (List Nat)
 | _ => []
@[simp] def fp229 : FPol := { inpl := [], exp := false, sites := [], mut_ := [], split := false }
@[simp] def keep230 : Nat → List Nat
 | 0 => [0, 1]
 | 1 => [0, 1, 9]
 | 2 => [4, 5]
 | 3 => [4, 5]
 | _ => []
@[simp] def md230 : Nat → Bool
 | _ => false
@[simp] def od230 : Nat → List (List Nat)
 | _ => []
@[simp] def fp230 : FPol := { inpl := [], exp := false, sites := [], mut_ := [], split := false }
@[simp] def keep243 : Nat → List Nat
 | 0 => [0, 1]
 | 1 => [0, 1, 7, 8]
 | 2 => [0, 1, 7, 8, 9]
 | 3 => [0, 1, 5, 7, 8]
 | 4 => [0, 1, 5, 7, 8, 16]
 | 5 => [4]
 | 6 => [0, 1, 7, 8]
 | 7 => [4]
 | _ => []
@[simp] def md243 : Nat → Bool
 | _ => false
@[simp] def od243 : Nat → List (List Nat)
 | _ => []
@[simp] def fp243 : FPol := { inpl := [], exp := false, sites := [], mut_ := [], split := false }
@[simp] def keep245 : Nat → List Nat
 | 0 => [0, 1]
 | 1 => [4]
 | _ => []
@[simp] def md245 : Nat → Bool
 | 1 => true
 | _ => false
@[simp] def od245 : Nat → List (List Nat)
 | _ => []
@[simp] def fp245 : FPol := { inpl := [], exp := false, sites := [], mut_ := [], split := false }
@[simp] def keep246 : Nat → List Nat
 | 0 => [0, 1]
 | 1 => [4]
 | _ => []
@[simp] def md246 : Nat → Bool
 | _ => false
@[simp] def od246 : Nat → List (List Nat)
 | _ => []
@[simp] def fp246 : FPol := { inpl := [], exp := false, sites := [], mut_ := [], split := false }
@[simp] def keep247 : Nat → List Nat
 | 0 => [0, 1]
 | 1 => [0, 1, 5]
 | 2 => [0, 1, 5, 16]
 | 3 => [4]
 | 4 => [0, 1, 5, 24]
 | 5 => [4]
 | 6 => [0, 1, 5, 31]
 | 7 => [4]
 | 8 => [0, 1, 5, 36]
 | 9 => [4]
 | 10 => [0, 1, 5, 6]
 | 11 => [0, 1, 5, 6, 7]
 | 12 => [0, 1, 5, 6, 7, 8]
 | 13 => [0, 1, 5, 6, 7, 8, 9]
 | 14 => [0, 1, 5, 6, 7, 8, 9, 10]
 | 15 => [0, 1, 5, 6, 7, 8, 9, 10, 59]
 | 16 => [0, 1, 5, 6, 7, 8, 9, 10, 64]
 | 17 => [0, 1, 5, 6, 7, 8, 9, 10, 11]
 | 18 => [0, 1, 5, 6, 7, 8, 9, 10, 11, 73]
 | 19 => [4]
 | 20 => [0, 1, 5, 6, 7, 8, 9, 10]
 | 21 => [0, 1, 5, 6, 7, 8, 9, 10, 93]
 | 22 => [4]
 | 23 => [0, 1, 5, 6, 7, 8, 9, 10]
 | 24 => [0, 1, 5, 6, 7, 8, 9, 10]
 | 25 => [0, 1, 5, 6, 7, 8, 9, 10, 107]
 | 26 => [8, 12]
 | 27 => [8, 12, 114]
 | 28 => [4]
 | 29 => [4]
 | 30 => [0, 1, 5, 6, 7, 8, 9, 10, 132]
 | 31 => [8, 13]
 | 32 => [8, 13, 139]
 | 33 => [4]
 | 34 => [4]
 | 35 => [4]
 | _ => []
@[simp] def md247 : Nat → Bool
 | 21 => true
 | 25 => true
 | _ => false
@[simp] def od247 : Nat → List (List Nat)
 | _ => []
@[simp] def fp247 : FPol := { inpl := [], exp := false, sites := [], mut_ := [], split := false }
@[simp] def keep248 : Nat → List Nat
 | 0 => [0, 1]
 | 1 => [3]
 | _ => []
@[simp] def md248 : Nat → Bool
 | _ => false
@[simp] def od248 : Nat → List (List Nat)
 | 1 => [[2], [2], [0, 1], [], []]
 | _ => []
@[simp] def fp248 : FPol := { inpl := [], exp := false, sites := [], mut_ := [], split := false }
@[simp] def keep249 : Nat → List Nat
 | 0 => [0]
 | 1 => [0, 3]
 | 2 => [2]
 | 3 => [0, 9]
 | 4 => [2]
 | 5 => [2]
 | _ => []
@[simp] def md249 : Nat → Bool
 | _ => false
@[simp] def od249 : Nat → List (List Nat)
 | _ => []
@[simp] def fp249 : FPol := { inpl := [], exp := false, sites := [], mut_ := [], split := false }
@[simp] def keep250 : Nat → List Nat
 | 0 => [0, 2]
 | 1 => [0, 2, 3]
 | 2 => [0, 2, 3, 4, 5]
 | 3 => [0, 2, 3, 4, 15]
 | 4 => [2, 3]
 | 5 => [2]
 | 6 => [0, 2, 3, 20]
 | 7 => [2]
 | 8 => [2, 3, 6]
 | 9 => [2, 3, 6]
 | 10 => [2, 3, 6, 32]
 | 11 => [2, 3]
 | 12 => [2]
 | _ => []
@[simp] def md250 : Nat → Bool
 | _ => false
@[simp] def od250 : Nat → List (List Nat)
 | _ => []
@[simp] def fp250 : FPol := { inpl := [1], exp := false, sites := [200, 250, 400], mut_ := [], split := false }
@[simp] def keep251 : Nat → List Nat
 | 0 => [0]
 | 1 => [0, 4]
 | 2 => [2, 3]
 | 3 => [0, 7]
 | 4 => [2, 3]
 | 5 => [2, 3]
 | _ => []
@[simp] def md251 : Nat → Bool
 | _ => false
@[simp] def od251 : Nat → List (List Nat)
 | _ => []
@[simp] def fp251 : FPol := { inpl := [1], exp := false, sites := [], mut_ := [], split := false }
@[simp] def keep252 : Nat → List Nat
 | 0 => [0, 1]
 | 1 => [0, 1, 7, 8]
 | 2 => [0, 1, 7, 8, 9]
 | 3 => [0, 1, 5, 7, 8]
 | 4 => [0, 1, 5, 7, 8, 16]
 | 5 => [4]
 | 6 => [0, 1, 7, 8]
 | 7 => [4]
 | _ => []
@[simp] def md252 : Nat → Bool
 | _ => false
@[simp] def od252 : Nat → List (List Nat)
 | _ => []
@[simp] def fp252 : FPol := { inpl := [1], exp := false, sites := [], mut_ := [], split := false }
@[simp] def keep253 : Nat → List Nat
 | 0 => [0]
 | 1 => [0, 13]
 | 2 => []
 | _ => []
@[simp] def md253 : Nat → Bool
 | _ => false
@[simp] def od253 : Nat → List (List Nat)
 | _ => []
@[simp] def fp253 : FPol := { inpl := [1], exp := false, sites := [], mut_ := [], split := false }
@[simp] def keep254 : Nat → List Nat
 | 0 => [0, 2]
 | 1 => [0, 2, 7]
 | 2 => [2]
 | 3 => [0, 2, 12]
 | 4 => [2]
 | 5 => [0, 2, 17]
 | 6 => [2]
 | 7 => [0, 2, 22]
 | 8 => [0, 2, 3]
 | 9 => [0, 2, 3]
 | 10 => [0, 2, 3]
 | 11 => [2, 3]
 | 12 => [2]
 | 13 => [0, 2, 38]
 | 14 => [0, 2, 4]
 | 15 => [0, 2, 4]
 | 16 => [0, 2, 4]
 | 17 => [2, 4]
 | 18 => [2]
 | 19 => [0, 2, 54]
 | 20 => [2]
 | 21 => [0, 2, 58]
 | 22 => [2]
 | 23 => [0, 2, 5]
 | 24 => [0, 2, 5, 65]
 | 25 => [2]
 | 26 => [0, 2, 5, 6]
 | 27 => [0, 2, 5, 6, 76]
 | 28 => [0, 2, 6]
 | 29 => [0, 2, 6]
 | 30 => [2]
 | _ => []
@[simp] def md254 : Nat → Bool
 | _ => false
@[simp] def od254 : Nat → List (List Nat)
 | 28 => [[2, 3, 4, 5, 6], [2, 3, 4, 5, 6], [0, 1, 5, 6], [0, 1, 5, 6], [0, 1, 5, 6], [0, 1, 2, 3, 4], [0, 1, 2, 3, 4], [], []]
 | 30 => [[1, 2], [0], [0], [], []]
 | _ => []
@[simp] def fp254 : FPol := { inpl := [1], exp := false, sites := [200, 250, 300, 350, 400], mut_ := [], split := false }
@[simp] def keep255 : Nat → List Nat
 | 0 => []
 | _ => []
@[simp] def md255 : Nat → Bool
 | _ => false
@[simp] def od255 : Nat → List (List Nat)
 | _ => []
@[simp] def fp255 : FPol := { inpl := [1], exp := false, sites := [], mut_ := [], split := false }
@[simp] def keep256 : Nat → List Nat
 | 0 => [1, 2]
 | 1 => [3]
 | _ => []
@[simp] def md256 : Nat → Bool
 | _ => false
@[simp] def od256 : Nat → List (List Nat)
 | _ => []
@[simp] def fp256 : FPol := { inpl := [], exp := false, sites := [200], mut_ := [], split := false }
@[simp] def keep257 : Nat → List Nat
 | 0 => [0, 3]
 | 1 => [3, 5]
 | 2 => [3, 5]
 | 3 => [3, 6, 7]
 | 4 => [6]
 | 5 => [4]
 | _ => []
@[simp] def md257 : Nat → Bool
 | _ => false
@[simp] def od257 : Nat → List (List Nat)
 | 2 => [[2, 3], [2, 3], [0, 1], [0, 1], []]
 | _ => []
@[simp] def fp257 : FPol := { inpl := [1], exp := false, sites := [250, 350, 400], mut_ := [], split := false }
@[simp] def keep258 : Nat → List Nat
 | 0 => [0, 3]
 | 1 => [0, 3, 5]
 | 2 => [0, 5, 9, 10, 11]
 | 3 => [0, 5, 9, 10, 11, 12]
 | 4 => [0, 5, 7, 9, 10, 11]
 | 5 => [0, 5, 9, 10, 11]
 | 6 => [0, 5, 9, 10, 11]
 | 7 => [4]
 | _ => []
@[simp] def md258 : Nat → Bool
 | _ => false
@[simp] def od258 : Nat → List (List Nat)
 | _ => []
@[simp] def fp258 : FPol := { inpl := [1], exp := false, sites := [250, 350, 450], mut_ := [], split := false }
@[simp] def keep259 : Nat → List Nat
 | 0 => [0, 3]
 | 1 => [4]
 | _ => []
@[simp] def md259 : Nat → Bool
 | _ => false
@[simp] def od259 : Nat → List (List Nat)
 | _ => []
@[simp] def fp259 : FPol := { inpl := [], exp := false, sites := [250], mut_ := [], split := false }
@[simp] def keep260 : Nat → List Nat
 | 0 => [1, 2]
 | 1 => [3]
 | _ => []
@[simp] def md260 : Nat → Bool
 | _ => false
@[simp] def od260 : Nat → List (List Nat)
 | _ => []
@[simp] def fp260 : FPol := { inpl := [], exp := false, sites := [200], mut_ := [], split := false }
@[simp] def keep261 : Nat → List Nat
 | 0 => [0, 1]
 | 1 => [0, 1, 7, 8]
 | 2 => [0, 1, 7, 8, 9]
 | 3 => [0, 1, 5, 7, 8]
 | 4 => [0, 1, 5, 7, 8, 16]
 | 5 => [4]
 | 6 => [0, 1, 7, 8]
 | 7 => [4]
 | _ => []
@[simp] def md261 : Nat → Bool
 | _ => false
@[simp] def od261 : Nat → List (List Nat)
 | _ => []
@[simp] def fp261 : FPol := { inpl := [], exp := false, sites := [], mut_ := [], split := false }
@[simp] def keep267 : Nat → List Nat
 | 0 => [0, 1]
 | 1 => [0, 1, 5]
 | 2 => [0, 1, 5, 6]
 | 3 => [0, 1, 5, 6, 32]
 | 4 => [4]
 | 5 => [1, 7]
 | 6 => [1, 7, 54]
 | 7 => [4]
 | 8 => [4]
 | _ => []
@[simp] def md267 : Nat → Bool
 | 3 => true
 | 6 => true
 | _ => false
@[simp] def od267 : Nat → List (List Nat)
 | _ => []
@[simp] def fp267 : FPol := { inpl := [], exp := false, sites := [], mut_ := [], split := false }
@[simp] def keep268 : Nat → List Nat
 | 0 => [0, 1]
 | 1 => [4]
 | _ => []
@[simp] def md268 : Nat → Bool
 | 1 => true
 | _ => false
@[simp] def od268 : Nat → List (List Nat)
 | _ => []
@[simp] def fp268 : FPol := { inpl := [], exp := false, sites := [], mut_ := [], split := false }
@[simp] def keep280 : Nat → List Nat
 | 0 => [0]
 | 1 => [2]
 | _ => []
@[simp] def md280 : Nat → Bool
 | _ => false
@[simp] def od280 : Nat → List (List Nat)
 | _ => []
@[simp] def fp280 : FPol := { inpl := [], exp := false, sites := [], mut_ := [], split := false }
@[simp] def keep281 : Nat → List Nat
 | 0 => [0, 1]
 | 1 => [0, 1, 5, 6]
 | 2 => [0, 1, 5, 6, 7]
 | 3 => [0, 1, 5, 6, 7, 8]
 | 4 => [0, 1, 5, 6, 7, 8, 9]
 | 5 => [0, 1, 5, 6, 7, 8, 9, 20]
 | 6 => [0, 1, 5, 6, 7, 8, 9]
 | 7 => [0, 1, 5, 6, 7, 8, 9]
 | 8 => [0, 1, 5, 6, 7, 8, 39]
 | 9 => [4]
 | 10 => [0, 1, 5, 6, 7, 8, 10]
 | 11 => [0, 1, 5, 6, 7, 8, 10, 44]
 | 12 => [0, 1, 5, 6, 7, 8, 10]
 | 13 => [0, 1, 5, 6, 7, 8, 10]
 | 14 => [0, 1, 5, 6, 7, 8, 10]
 | 15 => [0, 1, 5, 6, 7, 8, 10]
 | 16 => [0, 1, 5, 6, 7, 8, 10, 77]
 | 17 => [4]
 | 18 => [4]
 | _ => []
@[simp] def md281 : Nat → Bool
 | 8 => true
 | 16 => true
 | _ => false
@[simp] def od281 : Nat → List (List Nat)
 | _ => []
@[simp] def fp281 : FPol := { inpl := [], exp := false, sites := [], mut_ := [], split := false }
@[simp] def keep282 : Nat → List Nat
 | 0 => [0]
 | 1 => [0, 4]
 | 2 => [2, 3]
 | 3 => [7]
 | 4 => [2, 3]
 | 5 => [2, 3]
 | _ => []
@[simp] def md282 : Nat → Bool
 | _ => false
@[simp] def od282 : Nat → List (List Nat)
 | _ => []
@[simp] def fp282 : FPol := { inpl := [1], exp := false, sites := [], mut_ := [], split := false }
@[simp] def keep283 : Nat → List Nat
 | 0 => [0, 3, 4]
 | 1 => [0, 3, 4]
 | 2 => [0, 3, 4]
 | 3 => [0, 3, 4]
 | 4 => [0, 3, 4, 5]
 | 5 => [0, 3, 4, 5, 27]
 | 6 => [0, 3, 4, 5]
 | 7 => [0, 3, 4]
 | 8 => [0, 3, 4]
 | 9 => [0, 3, 4]
 | 10 => [0, 3, 4, 6, 7]
 | 11 => [0, 3, 4, 6, 44]
 | 12 => [3, 4, 6]
 | 13 => [3, 4]
 | 14 => [4]
 | _ => []
@[simp] def md283 : Nat → Bool
 | _ => false
@[simp] def od283 : Nat → List (List Nat)
 | 7 => [[2, 3], [2, 3], [0, 1], [0, 1], [], []]
 | _ => []
@[simp] def fp283 : FPol := { inpl := [1], exp := false, sites := [250, 300, 350], mut_ := [], split := false }
@[simp] def keep284 : Nat → List Nat
 | 0 => [1]
 | 1 => [1, 3]
 | 2 => [3, 4]
 | 3 => [3, 4, 10]
 | 4 => [2]
 | 5 => [2]
 | _ => []
@[simp] def md284 : Nat → Bool
 | _ => false
@[simp] def od284 : Nat → List (List Nat)
 | _ => []
@[simp] def fp284 : FPol := { inpl := [], exp := false, sites := [150], mut_ := [], split := false }
@[simp] def keep285 : Nat → List Nat
 | 0 => [0]
 | 1 => [0, 4]
 | 2 => [2]
 | 3 => [2]
 | _ => []
@[simp] def md285 : Nat → Bool
 | _ => false
@[simp] def od285 : Nat → List (List Nat)
 | _ => []
@[simp] def fp285 : FPol := { inpl := [1], exp := false, sites := [], mut_ := [], split := false }
@[simp] def keep286 : Nat → List Nat
 | 0 => [0, 2]
 | 1 => [0, 2, 3]
 | 2 => [0, 2, 3]
 | 3 => [0, 2, 3]
 | 4 => [0, 2, 3]
 | 5 => [0, 2, 3, 24]
 | 6 => [0, 2, 3, 26]
 | 7 => [0, 2, 3]
 | 8 => [2, 3]
 | 9 => [2]
 | _ => []
@[simp] def md286 : Nat → Bool
 | _ => false
@[simp] def od286 : Nat → List (List Nat)
 | 2 => [[2, 3, 4], [2, 3, 4], [0, 1], [0, 1], [0, 1], [], [], []]
 | 4 => [[2, 3, 4, 5], [2, 3, 4, 5], [0, 1, 3], [0, 1, 2], [0, 1], [0, 1], [], [], []]
 | 7 => [[2, 3, 4, 5], [2, 3, 4, 5], [0, 1, 3], [0, 1, 2], [0, 1], [0, 1], [], [], []]
 | _ => []
@[simp] def gh286 : Nat → List Gh
 | 1 => [.adopt 250 14 251 6, .adopt 250 17 252 1]
 | _ => []
@[simp] def fp286 : FPol := { inpl := [1], exp := false, sites := [200, 250, 251, 252], mut_ := [], split := false }
@[simp] def keep287 : Nat → List Nat
 | 0 => [0, 2]
 | 1 => [0, 2, 3]
 | 2 => [0, 2, 3]
 | 3 => [0, 2, 3, 11]
 | 4 => [0, 2, 3]
 | 5 => [0, 2, 3, 4]
 | 6 => [0, 2, 3, 4, 31]
 | 7 => [0, 2, 3, 4]
 | 8 => [0, 2, 3]
 | 9 => [0, 2, 3, 44]
 | 10 => [0, 2, 3]
 | 11 => [2, 3]
 | 12 => [2]
 | _ => []
@[simp] def md287 : Nat → Bool
 | 6 => true
 | _ => false
@[simp] def od287 : Nat → List (List Nat)
 | 4 => [[2, 3, 4], [2, 3, 4], [0, 1], [0, 1], [0, 1], [], [], []]
 | 10 => [[2, 3, 4, 5], [2, 3, 4, 5], [0, 1, 3], [0, 1, 2], [0, 1], [0, 1], [], [], []]
 | _ => []
@[simp] def gh287 : Nat → List Gh
 | 1 => [.adopt 250 15 251 1, .adopt 250 17 252 1]
 | 1000002 => [.freeze 300]
 | _ => []
@[simp] def fp287 : FPol := { inpl := [1], exp := false, sites := [200, 250, 251, 252, 300], mut_ := [], split := false }
@[simp] def keep288 : Nat → List Nat
 | 0 => [0, 2]
 | 1 => [0, 2, 3]
 | 2 => [0, 2, 3]
 | 3 => [0, 2, 3, 4]
 | 4 => [0, 2, 3, 4]
 | 5 => [0, 2, 3]
 | 6 => [0, 2, 3, 5]
 | 7 => [0, 2, 3, 5, 26]
 | 8 => [0, 2, 3, 5]
 | 9 => [0, 2, 3]
 | 10 => [0, 2, 3]
 | 11 => [0, 2, 3]
 | 12 => [2, 3]
 | 13 => [2]
 | _ => []
@[simp] def md288 : Nat → Bool
 | _ => false
@[simp] def od288 : Nat → List (List Nat)
 | 5 => [[1, 2], [0], [0], [], [], []]
 | _ => []
@[simp] def fp288 : FPol := { inpl := [1], exp := false, sites := [200, 250, 300, 350, 1050], mut_ := [], split := false }
@[simp] def keep289 : Nat → List Nat
 | 0 => [0, 2]
 | 1 => [2]
 | _ => []
@[simp] def md289 : Nat → Bool
 | _ => false
@[simp] def od289 : Nat → List (List Nat)
 | _ => []
@[simp] def fp289 : FPol := { inpl := [1], exp := false, sites := [200], mut_ := [], split := false }
@[simp] def keep290 : Nat → List Nat
 | 0 => [0, 1, 4]
 | 1 => [0, 4, 5]
 | 2 => [0, 4, 5, 9]
 | 3 => [4]
 | 4 => [0, 4, 5]
 | 5 => [0, 4, 5]
 | 6 => [0, 4, 5]
 | 7 => [0, 4, 5, 30]
 | 8 => [4, 5]
 | 9 => [4]
 | _ => []
@[simp] def md290 : Nat → Bool
 | _ => false
@[simp] def od290 : Nat → List (List Nat)
 | 4 => [[2, 3, 4, 5], [2, 3, 4, 5], [0, 1], [0, 1], [0, 1], [0, 1], [], [], []]
 | 6 => [[2, 3, 4], [2, 3, 4], [0, 1], [0, 1], [0, 1], [], [], []]
 | _ => []
@[simp] def gh290 : Nat → List Gh
 | 1 => [.adopt 350 14 351 6, .adopt 350 16 352 1]
 | _ => []
@[simp] def fp290 : FPol := { inpl := [1], exp := false, sites := [300, 350, 351, 352], mut_ := [], split := false }
@[simp] def keep291 : Nat → List Nat
 | 0 => [0, 2]
 | 1 => [0, 2]
 | 2 => [0, 2]
 | 3 => [0, 2, 3]
 | 4 => [0, 2, 3]
 | 5 => [2, 3]
 | 6 => [2]
 | _ => []
@[simp] def md291 : Nat → Bool
 | _ => false
@[simp] def od291 : Nat → List (List Nat)
 | _ => []
@[simp] def fp291 : FPol := { inpl := [1], exp := false, sites := [200, 250], mut_ := [], split := false }
@[simp] def keep292 : Nat → List Nat
 | 0 => [0, 1]
 | 1 => [4]
 | _ => []
@[simp] def md292 : Nat → Bool
 | _ => false
@[simp] def od292 : Nat → List (List Nat)
 | _ => []
@[simp] def fp292 : FPol := { inpl := [], exp := false, sites := [], mut_ := [], split := false }
@[simp] def keep293 : Nat → List Nat
 | 0 => [0, 1]
 | 1 => [3]
 | _ => []
@[simp] def md293 : Nat → Bool
 | _ => false
@[simp] def od293 : Nat → List (List Nat)
 | _ => []
@[simp] def fp293 : FPol := { inpl := [], exp := false, sites := [], mut_ := [], split := false }
@[simp] def keep297 : Nat → List Nat
 | 0 => [0, 1]
 | 1 => [0, 1, 17]
 | 2 => [0, 1, 19, 20]
 | 3 => [0, 1, 19, 20, 21]
 | 4 => [0, 1, 5, 19, 20]
 | 5 => [0, 1, 6, 19, 20]
 | 6 => [0, 1, 6, 19, 20, 31]
 | 7 => [4]
 | 8 => [0, 1, 6, 19, 20, 37]
 | 9 => [4]
 | 10 => [0, 1, 19, 20]
 | 11 => [4]
 | 12 => [0, 1, 7]
 | 13 => [0, 1, 7, 8]
 | 14 => [0, 1, 7, 8, 62]
 | 15 => [0, 1, 7, 8, 9]
 | 16 => [0, 1, 7, 8, 9, 10]
 | 17 => [0, 1, 7, 8, 9, 10, 85]
 | 18 => [4]
 | 19 => [0, 1, 7, 8, 9, 110]
 | 20 => [0, 1, 7, 8]
 | 21 => [0, 1, 7, 8]
 | 22 => [4]
 | _ => []
@[simp] def md297 : Nat → Bool
 | _ => false
@[simp] def od297 : Nat → List (List Nat)
 | 9 => [[], [], [], [], [], [], [7, 8, 9, 10, 12, 13, 14, 15], [6, 12, 13, 14, 15], [6, 12, 13, 14, 15], [6, 12, 13, 14, 15], [6, 12, 13, 14, 15], [12, 13, 14, 15], [6, 7, 8, 9, 10, 11], [6, 7, 8, 9, 10, 11], [6, 7, 8, 9, 10, 11], [6, 7, 8, 9, 10, 11], [], [], [], []]
 | 18 => [[], [], [], [], [], [], [7, 8, 9, 10, 12, 13, 14, 15], [6, 12, 13, 14, 15], [6, 12, 13, 14, 15], [6, 12, 13, 14, 15], [6, 12, 13, 14, 15], [12, 13, 14, 15], [6, 7, 8, 9, 10, 11], [6, 7, 8, 9, 10, 11], [6, 7, 8, 9, 10, 11], [6, 7, 8, 9, 10, 11], [], [], [], []]
 | _ => []
@[simp] def fp297 : FPol := { inpl := [], exp := false, sites := [], mut_ := [], split := false }
@[simp] def keep298 : Nat → List Nat
 | 0 => [0, 1]
 | 1 => [0, 1, 13]
 | 2 => [0, 1, 15, 16]
 | 3 => [0, 1, 15, 16, 17]
 | 4 => [0, 1, 5, 15, 16]
 | 5 => [0, 1, 6, 15, 16]
 | 6 => [0, 1, 6, 15, 16, 27]
 | 7 => [4]
 | 8 => [0, 1, 6, 15, 16, 33]
 | 9 => [4]
 | 10 => [0, 1, 15, 16]
 | 11 => [4]
 | 12 => [0, 1, 7]
 | 13 => [0, 1, 7, 8]
 | 14 => [0, 1, 7, 8, 58]
 | 15 => [0, 1, 7, 8, 9]
 | 16 => [0, 1, 7, 8, 9, 10]
 | 17 => [0, 1, 7, 8, 9, 10, 78]
 | 18 => [4]
 | 19 => [0, 1, 7, 8, 9, 95]
 | 20 => [0, 1, 7, 8]
 | 21 => [0, 1, 7, 8]
 | 22 => [4]
 | _ => []
@[simp] def md298 : Nat → Bool
 | _ => false
@[simp] def od298 : Nat → List (List Nat)
 | 9 => [[], [], [], [], [], [], [7, 8, 9, 10, 12, 13, 14, 15], [6, 12, 13, 14, 15], [6, 12, 13, 14, 15], [6, 12, 13, 14, 15], [6, 12, 13, 14, 15], [12, 13, 14, 15], [6, 7, 8, 9, 10, 11], [6, 7, 8, 9, 10, 11], [6, 7, 8, 9, 10, 11], [6, 7, 8, 9, 10, 11], [], [], [], []]
 | _ => []
@[simp] def fp298 : FPol := { inpl := [], exp := false, sites := [600], mut_ := [], split := false }
@[simp] def keep304 : Nat → List Nat
 | 0 => [0]
 | 1 => [0, 4]
 | 2 => [0, 4, 5]
 | 3 => [0, 4, 5, 12]
 | 4 => [0, 4, 5]
 | 5 => [0, 4, 5]
 | 6 => [0, 4, 6, 7]
 | 7 => [4, 6, 7, 8]
 | 8 => [4, 6, 7, 8, 25]
 | 9 => [4, 6, 7, 8]
 | 10 => [4, 6, 7, 8, 30]
 | 11 => [4, 6, 7, 8]
 | 12 => [4, 6, 7, 8]
 | 13 => [2, 3]
 | _ => []
@[simp] def md304 : Nat → Bool
 | _ => false
@[simp] def od304 : Nat → List (List Nat)
 | _ => []
@[simp] def fp304 : FPol := { inpl := [], exp := false, sites := [], mut_ := [], split := false }
@[simp] def keep305 : Nat → List Nat
 | 0 => [1, 2]
 | 1 => [3]
 | _ => []
@[simp] def md305 : Nat → Bool
 | _ => false
@[simp] def od305 : Nat → List (List Nat)
 | _ => []
@[simp] def fp305 : FPol := { inpl := [], exp := false, sites := [200], mut_ := [], split := false }
@[simp] def keep306 : Nat → List Nat
 | 0 => [0]
 | 1 => [2]
 | _ => []
@[simp] def md306 : Nat → Bool
 | 1 => true
 | _ => false
@[simp] def od306 : Nat → List (List Nat)
 | _ => []
@[simp] def fp306 : FPol := { inpl := [1], exp := false, sites := [], mut_ := [], split := false }
@[simp] def keep307 : Nat → List Nat
 | 0 => [0]
 | 1 => [0, 3]
 | 2 => [0, 3, 4]
 | 3 => [0, 3, 4, 5]
 | 4 => [0, 3, 4, 5, 10]
 | 5 => [0, 3, 4, 5]
 | 6 => [0, 3]
 | 7 => [0, 3, 20]
 | 8 => [3]
 | 9 => [2]
 | _ => []
@[simp] def md307 : Nat → Bool
 | _ => false
@[simp] def od307 : Nat → List (List Nat)
 | _ => []
@[simp] def fp307 : FPol := { inpl := [1], exp := false, sites := [250], mut_ := [], split := false }
@[simp] def keep308 : Nat → List Nat
 | 0 => [0, 1, 4]
 | 1 => [0, 1, 4, 5]
 | 2 => [0, 1, 4, 5, 12]
 | 3 => [4]
 | 4 => [0, 1, 4, 5, 6]
 | 5 => [0, 1, 4, 5, 6, 25]
 | 6 => [0, 1, 4, 5, 6, 7]
 | 7 => [0, 1, 4, 5, 6]
 | 8 => [0, 1, 4, 5, 6, 41]
 | 9 => [4]
 | _ => []
@[simp] def md308 : Nat → Bool
 | _ => false
@[simp] def od308 : Nat → List (List Nat)
 | 7 => [[3, 4, 5, 6, 9, 10], [3, 4, 5, 6, 9, 10], [3, 4, 5, 6, 9, 10], [0, 1, 2, 4, 5, 6, 7, 9, 10], [0, 1, 2, 3, 5, 6, 9, 10], [0, 1, 2, 3, 4, 9, 10], [0, 1, 2, 3, 4, 9, 10], [3, 9, 10], [9, 10], [0, 1, 2, 3, 4, 5, 6, 7, 8], [0, 1, 2, 3, 4, 5, 6, 7, 8], [], []]
 | _ => []
@[simp] def fp308 : FPol := { inpl := [1], exp := false, sites := [300, 400, 450], mut_ := [], split := false }
@[simp] def keep309 : Nat → List Nat
 | 0 => [0, 1]
 | 1 => [0, 1, 7, 8]
 | 2 => [0, 1, 7, 8, 9]
 | 3 => [0, 1, 5, 7, 8]
 | 4 => [0, 1, 5, 7, 8, 16]
 | 5 => [4]
 | 6 => [0, 1, 7, 8]
 | 7 => [4]
 | _ => []
@[simp] def md309 : Nat → Bool
 | _ => false
@[simp] def od309 : Nat → List (List Nat)
 | _ => []
@[simp] def fp309 : FPol := { inpl := [], exp := false, sites := [], mut_ := [], split := false }
@[simp] def keep311 : Nat → List Nat
 | 0 => []
 | 1 => [0]
 | _ => []
@[simp] def md311 : Nat → Bool
 | _ => false
@[simp] def od311 : Nat → List (List Nat)
 | _ => []
@[simp] def fp311 : FPol := { inpl := [], exp := false, sites := [], mut_ := [], split := false }
@[simp] def keep312 : Nat → List Nat
 | 0 => [0, 2]
 | 1 => [0, 2, 3]
 | 2 => [0, 2, 3]
 | 3 => [2]
 | 4 => [0, 2, 3, 10]
 | 5 => [0, 2, 3, 4]
 | 6 => [0, 2, 3, 13]
 | 7 => [0, 2, 3, 4]
 | 8 => [0, 2, 3, 4]
 | 9 => [0, 2, 3, 4]
 | 10 => [0, 2, 5]
 | 11 => [2, 5]
 | 12 => [2]
 | _ => []
@[simp] def md312 : Nat → Bool
 | _ => false
@[simp] def od312 : Nat → List (List Nat)
 | 10 => [[1, 2, 3, 4, 5, 7], [0, 4, 5, 7], [0, 4, 5, 7], [0, 4, 5, 7], [0, 1, 2, 3, 7], [0, 1, 2, 3, 7], [7], [0, 1, 2, 3, 4, 5, 6], []]
 | _ => []
@[simp] def fp312 : FPol := { inpl := [1], exp := false, sites := [200, 250, 350], mut_ := [], split := false }
@[simp] def keep313 : Nat → List Nat
 | 0 => [0]
 | 1 => [0, 3]
 | 2 => [2]
 | _ => []
@[simp] def md313 : Nat → Bool
 | _ => false
@[simp] def od313 : Nat → List (List Nat)
 | _ => []
@[simp] def fp313 : FPol := { inpl := [], exp := false, sites := [], mut_ := [], split := false }
@[simp] def keep314 : Nat → List Nat
 | 0 => [0, 2]
 | 1 => [0, 2, 3]
 | 2 => [0, 2, 3, 7]
 | 3 => [2]
 | 4 => [0, 2, 3, 17]
 | 5 => [2]
 | 6 => [0, 2, 3, 23]
 | 7 => [2]
 | 8 => [0, 2, 3, 29]
 | 9 => [0, 2]
 | 10 => [0, 2]
 | 11 => [0, 2, 4]
 | 12 => [0, 2, 4]
 | 13 => [2, 4]
 | 14 => [2]
 | 15 => [0, 2, 3]
 | 16 => [0, 2, 3, 45]
 | 17 => [2]
 | 18 => [0, 2, 3, 56]
 | 19 => [2]
 | 20 => [2]
 | _ => []
@[simp] def md314 : Nat → Bool
 | _ => false
@[simp] def od314 : Nat → List (List Nat)
 | 3 => [[3, 4], [3, 4], [3, 4], [0, 1, 2], [0, 1, 2], [], []]
 | 17 => [[2, 3, 4, 5, 6], [2, 3, 4, 5, 6], [0, 1, 5, 6], [0, 1, 5, 6], [0, 1, 5, 6], [0, 1, 2, 3, 4], [0, 1, 2, 3, 4], [], []]
 | 19 => [[2, 3, 4, 5, 6], [2, 3, 4, 5, 6], [0, 1, 5, 6], [0, 1, 5, 6], [0, 1, 5, 6], [0, 1, 2, 3, 4], [0, 1, 2, 3, 4], [], []]
 | _ => []
@[simp] def fp314 : FPol := { inpl := [1], exp := false, sites := [200, 250, 300], mut_ := [], split := false }
def od7 : Nat → List (List Nat)
 | 6 => [[], [], [], [4, 5, 7, 8, 9], [3, 5, 7, 8, 9], [3, 4, 7, 8, 9], [7, 8, 9], [3, 4, 5, 6, 8, 9], [3, 4, 5, 6, 7, 9], [3, 4, 5, 6, 7, 8], [], [], [], []]
 | _ => []
def od12 : Nat → List (List Nat)
 | 5 => [[1, 2, 4, 5, 6, 7, 8, 10, 11], [0, 2, 4, 5, 6, 7, 8, 10, 11], [0, 1, 4, 5, 6, 7, 8, 10, 11], [4, 5, 6, 7, 8, 10, 11], [0, 1, 2, 3, 5, 6, 7, 8, 10, 11], [0, 1, 2, 3, 4, 6, 7, 8, 10, 11], [0, 1, 2, 3, 4, 5, 7, 10, 11], [0, 1, 2, 3, 4, 5, 6, 10, 11], [0, 1, 2, 3, 4, 5, 10, 11], [10, 11], [0, 1, 2, 3, 4, 5, 6, 7, 8, 9, 11], [0, 1, 2, 3, 4, 5, 6, 7, 8, 9, 10], [], []]
 | _ => []
def od13 : Nat → List (List Nat)
 | 5 => [[1, 2, 3], [0, 2, 3, 4], [0, 1, 3], [0, 1, 2], [1], []]
 | 6 => [[2, 4, 5, 6, 7], [2, 4, 5, 6, 7], [0, 1, 4, 5, 6, 7], [4, 5, 6, 7], [0, 1, 2, 3, 6, 8, 9], [0, 1, 2, 3, 6, 8, 9], [0, 1, 2, 3, 4, 5, 8, 9], [0, 1, 2, 3, 8, 9], [4, 5, 6, 7], [4, 5, 6, 7], [], []]
 | 7 => [[1, 2, 4, 5, 6, 8, 9], [0, 2, 4, 5, 6, 8, 9], [0, 1, 4, 5, 6, 8, 9], [4, 5, 6, 8, 9], [0, 1, 2, 3, 5, 6, 8, 9], [0, 1, 2, 3, 4, 6, 8, 9], [0, 1, 2, 3, 4, 5, 8, 9], [8, 9], [0, 1, 2, 3, 4, 5, 6, 7, 9], [0, 1, 2, 3, 4, 5, 6, 7, 8], [], []]
 | 10 => [[1, 2, 3, 4, 5, 6], [0, 2, 3, 4, 5], [0, 1, 4, 5], [0, 1, 4, 5], [0, 1, 2, 3], [0, 1, 2, 3], [0], [], []]
 | _ => []
def od14 : Nat → List (List Nat)
 | 5 => [[1, 2, 4, 6, 7], [0, 2, 4, 6, 7], [0, 1, 4, 6, 7], [4, 6, 7], [0, 1, 2, 3, 6, 7], [6, 7], [0, 1, 2, 3, 4, 5, 7], [0, 1, 2, 3, 4, 5, 6], [], [], []]
 | _ => []
def od19 : Nat → List (List Nat)
 | 8 => [[4, 5, 6, 7, 8], [4, 5, 6, 7, 8], [4, 5, 6, 7, 8], [4, 5, 6, 7, 8], [0, 1, 2, 3, 5, 6, 7, 8], [0, 1, 2, 3, 4], [0, 1, 2, 3, 4], [0, 1, 2, 3, 4], [0, 1, 2, 3, 4], [], [], []]
 | _ => []
def od20 : Nat → List (List Nat)
 | 1 => [[1, 2, 3, 4], [0], [0], [0], [0], [], [], []]
 | _ => []
def od22 : Nat → List (List Nat)
 | 9 => [[2, 3, 4], [2, 3, 4], [0, 1], [0, 1], [0, 1], [], [], []]
 | 11 => [[1, 2, 3, 4], [0, 5], [0, 5], [0, 5], [0, 5], [1, 2, 3, 4], []]
 | _ => []
def od24 : Nat → List (List Nat)
 | 6 => [[1, 4, 5, 6, 7], [0, 4, 5, 6, 7], [4, 5, 6, 7], [4, 5, 6, 7], [0, 1, 2, 3, 5], [0, 1, 2, 3, 4], [0, 1, 2, 3], [0, 1, 2, 3], []]
 | _ => []
def od25 : Nat → List (List Nat)
 | 6 => [[2, 5, 6, 7, 8, 9], [2, 5, 6, 7, 8, 9], [0, 1, 5, 6, 7, 8, 9], [5, 6, 7, 8, 9], [5, 6, 7, 8, 9], [0, 1, 2, 3, 4, 7], [0, 1, 2, 3, 4, 7], [0, 1, 2, 3, 4, 5, 6], [0, 1, 2, 3, 4], [0, 1, 2, 3, 4], []]
 | _ => []
def od31 : Nat → List (List Nat)
 | 3 => [[1, 2, 3, 4, 5, 6, 7, 8, 9], [0, 3, 4, 5, 6, 7, 9], [0, 3, 4, 5, 6, 7, 9], [0, 1, 2, 5, 6, 9], [0, 1, 2, 5, 6, 9], [0, 1, 2, 3, 4, 9], [0, 1, 2, 3, 4, 9], [0, 1, 2, 9], [0, 9], [0, 1, 2, 3, 4, 5, 6, 7, 8], [], [], []]
 | 5 => [[2, 3, 4, 5, 8], [2, 3, 4, 5, 8], [0, 1, 8], [0, 1, 8], [0, 1, 8], [0, 1, 8], [8], [8], [0, 1, 2, 3, 4, 5, 6, 7], []]
 | 10 => [[4, 5, 8, 9, 10, 11, 12, 13, 14, 15], [4, 5, 8, 9, 10, 11, 12, 13, 14, 15], [4, 5, 8, 9, 10, 11, 12, 13, 14, 15], [4, 5, 8, 9, 10, 11, 12, 13, 14, 15], [0, 1, 2, 3, 8, 9, 10, 11, 12, 13, 14, 15], [0, 1, 2, 3, 8, 9, 10, 11, 12, 13, 14, 15], [8, 9, 10, 11, 12, 13, 14, 15], [8, 9, 10, 11, 12, 13, 14, 15], [0, 1, 2, 3, 4, 5, 6, 7, 12, 13, 14, 15], [0, 1, 2, 3, 4, 5, 6, 7, 12, 13, 14, 15], [0, 1, 2, 3, 4, 5, 6, 7, 12, 13, 14, 15], [0, 1, 2, 3, 4, 5, 6, 7, 12, 13, 14, 15], [0, 1, 2, 3, 4, 5, 6, 7, 8, 9, 10, 11], [0, 1, 2, 3, 4, 5, 6, 7, 8, 9, 10, 11], [0, 1, 2, 3, 4, 5, 6, 7, 8, 9, 10, 11], [0, 1, 2, 3, 4, 5, 6, 7, 8, 9, 10, 11], [], []]
 | _ => []
def od32 : Nat → List (List Nat)
 | 2 => [[1, 2, 3, 4, 5, 8], [0, 3, 4, 5, 8], [0, 3, 4, 5, 8], [0, 1, 2, 5, 8], [0, 1, 2, 5, 8], [0, 1, 2, 3, 4, 8], [8], [8], [0, 1, 2, 3, 4, 5, 6, 7], []]
 | 8 => [[1, 2, 3, 4, 5, 6, 7, 8, 9], [0, 5, 6, 7, 8], [0, 5, 6, 7, 8], [0, 5, 6, 7, 8], [0, 5, 6, 7, 8], [0, 1, 2, 3, 4], [0, 1, 2, 3, 4], [0, 1, 2, 3, 4], [0, 1, 2, 3, 4], [0], [], [], []]
 | 12 => [[4, 5, 6, 7], [4, 5, 6, 7], [4, 5, 6, 7], [4, 5, 6, 7], [0, 1, 2, 3], [0, 1, 2, 3], [0, 1, 2, 3], [0, 1, 2, 3], [], []]
 | _ => []
def od51 : Nat → List (List Nat)
 | 1 => [[1, 2, 3, 4, 5, 6, 7], [0, 5, 6], [0, 5, 6], [0, 5, 6], [0, 5, 6], [0, 1, 2, 3, 4], [0, 1, 2, 3, 4], [0], [], [], []]
 | 3 => [[1, 2, 3, 4, 5, 6, 7, 8, 9], [0, 5, 6, 7, 8], [0, 5, 6, 7, 8], [0, 5, 6, 7, 8], [0, 5, 6, 7, 8], [0, 1, 2, 3, 4], [0, 1, 2, 3, 4], [0, 1, 2, 3, 4], [0, 1, 2, 3, 4], [0], [], [], []]
 | _ => []
def od53 : Nat → List (List Nat)
 | 5 => [[4, 5], [4, 5], [4, 5], [4, 5], [0, 1, 2, 3], [0, 1, 2, 3], [], []]
 | _ => []
def od55 : Nat → List (List Nat)
 | 4 => [[], [], [], [4, 7, 8, 9, 10, 11, 12, 13, 14, 15, 16, 17, 18, 19], [3, 7, 8, 9, 10, 11, 12, 13, 14, 15, 16, 17, 18, 19], [7, 8, 9, 10, 11, 12, 13, 14, 15, 16, 17, 18, 19], [7, 8, 9, 10, 11, 12, 13, 14, 15, 16, 17, 18, 19], [3, 4, 5, 6, 8, 13, 14, 15, 16, 17, 18], [3, 4, 5, 6, 7, 13, 14, 15, 16, 17, 18], [3, 4, 5, 6, 13, 14, 15, 16, 17, 18], [3, 4, 5, 6, 13, 14, 15, 16, 17, 18], [3, 4, 5, 6, 13, 14, 15, 16, 17, 18], [3, 4, 5, 6, 13, 14, 15, 16, 17, 18], [3, 4, 5, 6, 7, 8, 9, 10, 11, 12, 14, 15], [3, 4, 5, 6, 7, 8, 9, 10, 11, 12, 13], [3, 4, 5, 6, 7, 8, 9, 10, 11, 12, 13], [3, 4, 5, 6, 7, 8, 9, 10, 11, 12], [3, 4, 5, 6, 7, 8, 9, 10, 11, 12], [3, 4, 5, 6, 7, 8, 9, 10, 11, 12], [3, 4, 5, 6], [], [], []]
 | _ => []
def od69 : Nat → List (List Nat)
 | 6 => [[1, 4, 5, 6, 7], [0, 4, 5, 6, 7], [4, 5, 6, 7], [4, 5, 6, 7], [0, 1, 2, 3, 5], [0, 1, 2, 3, 4], [0, 1, 2, 3], [0, 1, 2, 3], []]
 | _ => []
def od71 : Nat → List (List Nat)
 | 6 => [[1, 2, 3, 4, 5, 6, 7, 8], [0, 5, 6], [0, 5, 6], [0, 5, 6], [0, 5, 6], [0, 1, 2, 3, 4], [0, 1, 2, 3, 4], [0], [0], []]
 | 8 => [[1, 2, 3, 4, 5, 6, 7, 8, 9, 10], [0, 5, 6], [0, 5, 6], [0, 5, 6], [0, 5, 6], [0, 1, 2, 3, 4], [0, 1, 2, 3, 4], [0], [0], [0], [0], []]
 | 11 => [[1, 2, 3], [0, 2, 3], [0, 1], [0, 1], [], [], [7], [6, 8], [7], []]
 | 18 => [[4, 5, 6], [4, 5, 6], [4, 5, 6], [4, 5, 6], [0, 1, 2, 3, 6], [0, 1, 2, 3, 6], [0, 1, 2, 3, 4, 5], [], []]
 | 21 => [[1, 2, 3], [0, 2, 3], [0, 1], [0, 1], [], [], [7], [6, 8], [7], []]
 | _ => []
def od72 : Nat → List (List Nat)
 | 15 => [[4, 5, 7, 8, 9, 10, 11, 12, 13, 14, 15, 16, 17, 18, 19, 20], [4, 5, 7, 8, 9, 10, 11, 12, 13, 14, 15, 16, 17, 18, 19, 20], [4, 5, 7, 8, 9, 10, 11, 12, 13, 14, 15, 16, 17, 18, 19, 20], [4, 5, 7, 8, 9, 10, 11, 12, 13, 14, 15, 16, 17, 18, 19, 20], [0, 1, 2, 3, 7, 8, 9, 10, 11, 12, 13, 14, 15, 16, 17, 18, 19, 20], [0, 1, 2, 3, 7, 8, 9, 10, 11, 12, 13, 14, 15, 16, 17, 18, 19, 20], [7, 8, 9, 10, 11, 12, 13, 14, 15, 16, 17, 18, 19, 20], [0, 1, 2, 3, 4, 5, 6, 9, 10, 11, 12, 13, 14, 15, 16, 17, 18, 19], [0, 1, 2, 3, 4, 5, 6, 9, 10, 11, 12, 13, 14, 15, 16, 17, 18, 19], [0, 1, 2, 3, 4, 5, 6, 7, 8, 13, 14, 15, 16, 17, 18], [0, 1, 2, 3, 4, 5, 6, 7, 8, 13, 14, 15, 16, 17, 18], [0, 1, 2, 3, 4, 5, 6, 7, 8, 13, 14, 15, 16, 17, 18], [0, 1, 2, 3, 4, 5, 6, 7, 8, 13, 14, 15, 16, 17, 18], [0, 1, 2, 3, 4, 5, 6, 7, 8, 9, 10, 11, 12, 15, 16, 17, 18], [0, 1, 2, 3, 4, 5, 6, 7, 8, 9, 10, 11, 12, 15, 16, 17, 18], [0, 1, 2, 3, 4, 5, 6, 7, 8, 9, 10, 11, 12, 13, 14, 17], [0, 1, 2, 3, 4, 5, 6, 7, 8, 9, 10, 11, 12, 13, 14, 17], [0, 1, 2, 3, 4, 5, 6, 7, 8, 9, 10, 11, 12, 13, 14, 15, 16], [0, 1, 2, 3, 4, 5, 6, 7, 8, 9, 10, 11, 12, 13, 14], [0, 1, 2, 3, 4, 5, 6, 7, 8], [0, 1, 2, 3, 4, 5, 6], []]
 | 19 => [[4, 5], [4, 5], [4, 5], [4, 5], [0, 1, 2, 3], [0, 1, 2, 3], [], [], []]
 | _ => []
def od74 : Nat → List (List Nat)
 | 5 => [[4, 5, 6, 7, 8, 9], [4, 5, 6, 7, 8, 9], [4, 5, 6, 7, 8, 9], [4, 5, 6, 7, 8, 9], [0, 1, 2, 3, 6, 7, 8, 9], [0, 1, 2, 3, 6, 7, 8, 9], [0, 1, 2, 3, 4, 5], [0, 1, 2, 3, 4, 5], [0, 1, 2, 3, 4, 5], [0, 1, 2, 3, 4, 5], [], []]
 | _ => []
def od77 : Nat → List (List Nat)
 | 5 => [[1, 2, 3, 4, 5, 6, 7, 8], [0, 3, 4, 5, 6, 7], [0, 3, 4, 5, 6, 7], [0, 1, 2, 4, 5, 6, 7], [0, 1, 2, 3, 5], [0, 1, 2, 3, 4], [0, 1, 2, 3], [0, 1, 2, 3], [0], [], [], []]
 | _ => []
def od78 : Nat → List (List Nat)
 | 12 => [[2, 3, 4, 5, 6, 7, 8, 9, 10, 11], [2, 3, 4, 5, 6, 7, 8, 9, 10, 11], [0, 1, 3, 7], [0, 1, 2, 7], [0, 1, 7], [0, 1, 7], [0, 1, 7], [0, 1, 2, 3, 4, 5, 6], [0, 1], [0, 1], [0, 1], [0, 1], [], [], []]
 | 17 => [[2, 3, 4, 5, 6, 7, 8, 9, 10, 11], [2, 3, 4, 5, 6, 7, 8, 9, 10, 11], [0, 1, 3, 7], [0, 1, 2, 7], [0, 1, 7], [0, 1, 7], [0, 1, 7], [0, 1, 2, 3, 4, 5, 6], [0, 1], [0, 1], [0, 1], [0, 1], [], [], []]
 | _ => []
def od79 : Nat → List (List Nat)
 | 5 => [[3, 4, 6, 7], [3, 4, 6, 7], [3, 4, 6, 7], [0, 1, 2, 6, 7], [0, 1, 2, 6, 7], [6, 7, 9], [0, 1, 2, 3, 4, 5], [0, 1, 2, 3, 4, 5], [9], [5, 8], [], [], [], [], []]
 | _ => []
def od89 : Nat → List (List Nat)
 | 16 => [[4, 5, 6, 7, 8, 9, 10, 11, 12, 13, 14, 15], [4, 5, 6, 7, 8, 9, 10, 11, 12, 13, 14, 15], [4, 5, 6, 7, 8, 9, 10, 11, 12, 13, 14, 15], [4, 5, 6, 7, 8, 9, 10, 11, 12, 13, 14, 15], [0, 1, 2, 3, 5, 6, 7, 8, 9, 10, 11, 12, 13, 14, 15], [0, 1, 2, 3, 4, 9, 12, 13, 14], [0, 1, 2, 3, 4, 9, 12, 13, 14], [0, 1, 2, 3, 4, 9, 12, 13, 14], [0, 1, 2, 3, 4, 9, 12, 13, 14], [0, 1, 2, 3, 4, 5, 6, 7, 8, 12, 13, 14], [0, 1, 2, 3, 4, 12, 13, 14], [0, 1, 2, 3, 4, 12, 13, 14], [0, 1, 2, 3, 4, 5, 6, 7, 8, 9, 10, 11], [0, 1, 2, 3, 4, 5, 6, 7, 8, 9, 10, 11], [0, 1, 2, 3, 4, 5, 6, 7, 8, 9, 10, 11], [0, 1, 2, 3, 4], [], []]
 | 18 => [[1, 2, 3, 4, 5, 6, 7, 8], [0, 5, 6, 7], [0, 5, 6, 7], [0, 5, 6, 7], [0, 5, 6, 7], [0, 1, 2, 3, 4], [0, 1, 2, 3, 4], [0, 1, 2, 3, 4], [0], [], [], []]
 | _ => []
def od90 : Nat → List (List Nat)
 | 0 => [[4, 5, 6], [4, 5, 6], [4, 5, 6], [4, 5, 6], [0, 1, 2, 3, 5, 6], [0, 1, 2, 3, 4], [0, 1, 2, 3, 4], [], [], []]
 | _ => []
def od105 : Nat → List (List Nat)
 | 0 => [[1, 2, 3, 4, 5], [0, 5, 6, 7], [0, 5, 6, 7], [0, 5, 6, 7], [0, 5, 6, 7], [0, 1, 2, 3, 4, 6, 7], [1, 2, 3, 4, 5], [1, 2, 3, 4, 5], [], []]
 | _ => []
def od108 : Nat → List (List Nat)
 | 2 => [[1, 2, 3, 4], [0, 5, 6], [0, 5, 6], [0, 5, 6], [0, 5, 6], [1, 2, 3, 4], [1, 2, 3, 4], [], [], []]
 | _ => []
def od109 : Nat → List (List Nat)
 | 4 => [[3, 4, 5, 6, 7, 8, 9, 10, 11, 12], [3, 4, 5, 6, 7, 8, 9, 10, 11, 12], [3, 4, 5, 6, 7, 8, 9, 10, 11, 12], [0, 1, 2, 7, 9, 10, 11, 12], [0, 1, 2, 7, 9, 10, 11, 12], [0, 1, 2, 7, 9, 10, 11, 12], [0, 1, 2, 7, 9, 10, 11, 12], [0, 1, 2, 3, 4, 5, 6, 9, 10, 11, 12], [0, 1, 2, 9, 10, 11, 12], [0, 1, 2, 3, 4, 5, 6, 7, 8], [0, 1, 2, 3, 4, 5, 6, 7, 8], [0, 1, 2, 3, 4, 5, 6, 7, 8], [0, 1, 2, 3, 4, 5, 6, 7, 8], [], [], []]
 | _ => []
def od111 : Nat → List (List Nat)
 | 1 => [[4, 5, 8, 9, 10, 11, 12, 13, 14, 15, 16, 17, 18, 19, 20, 21, 22, 23, 24], [4, 5, 8, 9, 10, 11, 12, 13, 14, 15, 16, 17, 18, 19, 20, 21, 22, 23, 24], [4, 5, 8, 9, 10, 11, 12, 13, 14, 15, 16, 17, 18, 19, 20, 21, 22, 23, 24], [4, 5, 8, 9, 10, 11, 12, 13, 14, 15, 16, 17, 18, 19, 20, 21, 22, 23, 24], [0, 1, 2, 3, 8, 9, 10, 11, 12, 13, 14, 15, 16, 17, 18, 19, 20, 21, 22, 23, 24], [0, 1, 2, 3, 8, 9, 10, 11, 12, 13, 14, 15, 16, 17, 18, 19, 20, 21, 22, 23, 24], [8, 9, 10, 11, 12, 13, 14, 15, 16, 17, 18, 19, 20, 21, 22, 23, 24], [8, 9, 10, 11, 12, 13, 14, 15, 16, 17, 18, 19, 20, 21, 22, 23, 24], [0, 1, 2, 3, 4, 5, 6, 7, 12, 13, 16, 17, 18, 19, 20, 21, 22, 23, 24, 25], [0, 1, 2, 3, 4, 5, 6, 7, 12, 13, 16, 17, 18, 19, 20, 21, 22, 23, 24, 25], [0, 1, 2, 3, 4, 5, 6, 7, 12, 13, 16, 17, 18, 19, 20, 21, 22, 23, 24, 25], [0, 1, 2, 3, 4, 5, 6, 7, 12, 13, 16, 17, 18, 19, 20, 21, 22, 23, 24, 25], [0, 1, 2, 3, 4, 5, 6, 7, 8, 9, 10, 11, 16, 17, 18, 19, 20, 21, 22, 23, 24, 25], [0, 1, 2, 3, 4, 5, 6, 7, 8, 9, 10, 11, 16, 17, 18, 19, 20, 21, 22, 23, 24, 25], [0, 1, 2, 3, 4, 5, 6, 7, 16, 17, 18, 19, 20, 21, 22, 23, 24, 25], [0, 1, 2, 3, 4, 5, 6, 7, 16, 17, 18, 19, 20, 21, 22, 23, 24, 25], [0, 1, 2, 3, 4, 5, 6, 7, 8, 9, 10, 11, 12, 13, 14, 15, 20, 21, 22, 25, 26], [0, 1, 2, 3, 4, 5, 6, 7, 8, 9, 10, 11, 12, 13, 14, 15, 20, 21, 22, 25, 26], [0, 1, 2, 3, 4, 5, 6, 7, 8, 9, 10, 11, 12, 13, 14, 15, 20, 21, 22, 25, 26], [0, 1, 2, 3, 4, 5, 6, 7, 8, 9, 10, 11, 12, 13, 14, 15, 20, 21, 22, 25, 26], [0, 1, 2, 3, 4, 5, 6, 7, 8, 9, 10, 11, 12, 13, 14, 15, 16, 17, 18, 19, 25, 26], [0, 1, 2, 3, 4, 5, 6, 7, 8, 9, 10, 11, 12, 13, 14, 15, 16, 17, 18, 19, 25, 26], [0, 1, 2, 3, 4, 5, 6, 7, 8, 9, 10, 11, 12, 13, 14, 15, 16, 17, 18, 19, 25, 26], [0, 1, 2, 3, 4, 5, 6, 7, 8, 9, 10, 11, 12, 13, 14, 15, 25, 26], [0, 1, 2, 3, 4, 5, 6, 7, 8, 9, 10, 11, 12, 13, 14, 15, 25, 26], [8, 9, 10, 11, 12, 13, 14, 15, 16, 17, 18, 19, 20, 21, 22, 23, 24], [16, 17, 18, 19, 20, 21, 22, 23, 24], []]
 | _ => []
def od117 : Nat → List (List Nat)
 | 1 => [[4, 5, 11], [4, 5, 11], [4, 5, 11], [4, 5, 11], [0, 1, 2, 3, 11], [0, 1, 2, 3, 11], [11], [11], [9, 10, 11], [8, 10, 11, 12], [8, 9, 11, 12, 13], [0, 1, 2, 3, 4, 5, 6, 7, 8, 9, 10], [9, 10], [10], []]
 | 4 => [[4, 5, 6], [4, 5, 6], [4, 5, 6], [4, 5, 6], [0, 1, 2, 3], [0, 1, 2, 3], [0, 1, 2, 3], [], [], [10, 11], [9, 11, 12], [9, 10, 12, 13], [10, 11], [11]]
 | 8 => [[1, 2, 3, 4, 5, 6, 7, 8, 9, 10, 11], [0, 2, 3, 5, 6, 7, 8, 9, 10], [0, 1, 5, 6, 7, 8, 9, 10], [0, 1, 5, 6, 7, 8, 9, 10], [0, 5, 6, 7, 8, 9, 10], [0, 1, 2, 3, 4, 6, 7, 8, 9], [0, 1, 2, 3, 4, 5, 8, 9], [0, 1, 2, 3, 4, 5, 8, 9], [0, 1, 2, 3, 4, 5, 6, 7], [0, 1, 2, 3, 4, 5, 6, 7], [0, 1, 2, 3, 4], [0], [], [], []]
 | 32 => [[1, 2, 3, 4, 5, 6, 7, 8, 9, 10, 11, 12, 13, 14, 15, 16, 17, 18, 19, 20, 21], [0, 2, 3, 4, 5, 6, 7, 8, 9, 10, 11, 12, 13, 14, 15, 16, 17, 18, 20], [0, 1, 4, 7, 10, 11, 12, 13, 14, 15, 16, 17, 18, 20], [0, 1, 4, 7, 10, 11, 12, 13, 14, 15, 16, 17, 18, 20], [0, 1, 2, 3, 7, 10, 11, 12, 13, 14, 15, 16, 17, 18, 20], [0, 1, 7, 10, 11, 12, 13, 14, 15, 16, 17, 18, 20], [0, 1, 7, 10, 11, 12, 13, 14, 15, 16, 17, 18, 20], [0, 1, 2, 3, 4, 5, 6, 10, 11, 12, 13, 14, 15, 16, 17, 18, 20], [0, 1, 10, 11, 12, 13, 14, 15, 16, 17, 18, 20], [0, 1, 10, 11, 12, 13, 14, 15, 16, 17, 18, 20], [0, 1, 2, 3, 4, 5, 6, 7, 8, 9, 12, 15, 16, 20], [0, 1, 2, 3, 4, 5, 6, 7, 8, 9, 12, 15, 16, 20], [0, 1, 2, 3, 4, 5, 6, 7, 8, 9, 10, 11, 15, 16, 20], [0, 1, 2, 3, 4, 5, 6, 7, 8, 9, 15, 16, 20], [0, 1, 2, 3, 4, 5, 6, 7, 8, 9, 15, 16, 20], [0, 1, 2, 3, 4, 5, 6, 7, 8, 9, 10, 11, 12, 13, 14, 20], [0, 1, 2, 3, 4, 5, 6, 7, 8, 9, 10, 11, 12, 13, 14, 20], [0, 1, 2, 3, 4, 5, 6, 7, 8, 9, 20], [0, 1, 2, 3, 4, 5, 6, 7, 8, 9, 20], [0, 20], [0, 1, 2, 3, 4, 5, 6, 7, 8, 9, 10, 11, 12, 13, 14, 15, 16, 17, 18, 19], [0], [], []]
 | 39 => [[1, 2, 3, 4, 6, 7, 8, 9, 10, 12, 13, 14, 15, 16, 18, 19, 20, 21, 22, 23, 24, 25], [0, 6, 7, 8, 9, 10, 12, 13, 14, 15, 16, 18, 19, 20, 21, 22, 23, 24, 25], [0, 6, 7, 8, 9, 10, 12, 13, 14, 15, 16, 18, 19, 20, 21, 22, 23, 24, 25], [0, 6, 7, 8, 9, 10, 12, 13, 14, 15, 16, 18, 19, 20, 21, 22, 23, 24, 25], [0, 6, 7, 8, 9, 10, 12, 13, 14, 15, 16, 18, 19, 20, 21, 22, 23, 24, 25], [6, 7, 8, 9, 10, 12, 13, 14, 15, 16, 18, 19, 20, 21, 22, 23, 24, 25], [0, 1, 2, 3, 4, 5, 7, 8, 9, 10, 12, 13, 14, 15, 16, 18, 19, 20, 21, 22, 23, 24, 25], [0, 1, 2, 3, 4, 5, 6, 12, 13, 14, 15, 16, 18, 19, 20, 21, 22, 23, 24, 25], [0, 1, 2, 3, 4, 5, 6, 12, 13, 14, 15, 16, 18, 19, 20, 21, 22, 23, 24, 25], [0, 1, 2, 3, 4, 5, 6, 12, 13, 14, 15, 16, 18, 19, 20, 21, 22, 23, 24, 25], [0, 1, 2, 3, 4, 5, 6, 12, 13, 14, 15, 16, 18, 19, 20, 21, 22, 23, 24, 25], [12, 13, 14, 15, 16, 18, 19, 20, 21, 22, 23, 24, 25], [0, 1, 2, 3, 4, 5, 6, 7, 8, 9, 10, 11, 13, 14, 15, 16, 18, 19, 20, 21, 22, 23, 24, 25], [0, 1, 2, 3, 4, 5, 6, 7, 8, 9, 10, 11, 12, 18, 19, 20, 21, 22, 23, 24, 25], [0, 1, 2, 3, 4, 5, 6, 7, 8, 9, 10, 11, 12, 18, 19, 20, 21, 22, 23, 24, 25], [0, 1, 2, 3, 4, 5, 6, 7, 8, 9, 10, 11, 12, 18, 19, 20, 21, 22, 23, 24, 25], [0, 1, 2, 3, 4, 5, 6, 7, 8, 9, 10, 11, 12, 18, 19, 20, 21, 22, 23, 24, 25], [18, 19, 20, 21, 22, 23, 24, 25], [0, 1, 2, 3, 4, 5, 6, 7, 8, 9, 10, 11, 12, 13, 14, 15, 16, 17, 21, 22, 23, 24], [0, 1, 2, 3, 4, 5, 6, 7, 8, 9, 10, 11, 12, 13, 14, 15, 16, 17, 21, 22, 23, 24], [0, 1, 2, 3, 4, 5, 6, 7, 8, 9, 10, 11, 12, 13, 14, 15, 16, 17, 21, 22, 23, 24], [0, 1, 2, 3, 4, 5, 6, 7, 8, 9, 10, 11, 12, 13, 14, 15, 16, 17, 18, 19, 20, 23, 24], [0, 1, 2, 3, 4, 5, 6, 7, 8, 9, 10, 11, 12, 13, 14, 15, 16, 17, 18, 19, 20, 23, 24], [0, 1, 2, 3, 4, 5, 6, 7, 8, 9, 10, 11, 12, 13, 14, 15, 16, 17, 18, 19, 20, 21, 22], [0, 1, 2, 3, 4, 5, 6, 7, 8, 9, 10, 11, 12, 13, 14, 15, 16, 17, 18, 19, 20, 21, 22], [0, 1, 2, 3, 4, 5, 6, 7, 8, 9, 10, 11, 12, 13, 14, 15, 16, 17], [], [], []]
 | 47 => [[2, 3, 4, 6], [2, 3, 4, 6], [0, 1, 3, 4, 6], [0, 1, 2, 6], [0, 1, 2, 6], [6], [0, 1, 2, 3, 4, 5], [], [], [], []]
 | 53 => [[1, 2, 3, 4, 5, 6, 9, 10], [0, 3, 4, 5, 9, 10], [0, 3, 4, 5, 9, 10], [0, 1, 2, 4, 5, 9, 10], [0, 1, 2, 3, 9, 10], [0, 1, 2, 3, 9, 10], [0, 9, 10], [9, 10], [9, 10], [0, 1, 2, 3, 4, 5, 6, 7, 8], [0, 1, 2, 3, 4, 5, 6, 7, 8], [], []]
 | 63 => [[4, 5, 6, 7, 8, 9, 10, 16], [4, 5, 6, 7, 8, 9, 10, 16], [4, 5, 6, 7, 8, 9, 10, 16], [4, 5, 6, 7, 8, 9, 10, 16], [0, 1, 2, 3, 6, 7, 8, 9, 10, 16], [0, 1, 2, 3, 6, 7, 8, 9, 10, 16], [0, 1, 2, 3, 4, 5, 8, 16], [0, 1, 2, 3, 4, 5, 8, 16], [0, 1, 2, 3, 4, 5, 6, 7, 16], [0, 1, 2, 3, 4, 5, 16], [0, 1, 2, 3, 4, 5, 16], [16], [16], [14, 15, 16], [13, 15, 16, 17], [13, 14, 16, 17, 18], [0, 1, 2, 3, 4, 5, 6, 7, 8, 9, 10, 11, 12, 13, 14, 15], [14, 15], [15], []]
 | _ => []
def od118 : Nat → List (List Nat)
 | 6 => [[2, 3, 4, 5, 6, 7, 8], [2, 3, 4, 5, 6, 7, 8], [0, 1, 4], [0, 1, 4], [0, 1, 2, 3], [0, 1], [0, 1], [0, 1], [0, 1], [], [], []]
 | _ => []
def od126 : Nat → List (List Nat)
 | 1 => [[4, 5, 6, 12], [4, 5, 6, 12], [4, 5, 6, 12], [4, 5, 6, 12], [0, 1, 2, 3, 12], [0, 1, 2, 3, 12], [0, 1, 2, 3, 12], [12], [12], [10, 11, 12], [9, 11, 12, 13], [9, 10, 12, 13, 14], [0, 1, 2, 3, 4, 5, 6, 7, 8, 9, 10, 11], [10, 11], [11], []]
 | _ => []
def od128 : Nat → List (List Nat)
 | 0 => [[1, 2, 3, 4, 5], [0, 3], [0, 3], [0, 1, 2], [0], [0], []]
 | _ => []
def od129 : Nat → List (List Nat)
 | 7 => [[4, 5, 11], [4, 5, 11], [4, 5, 11], [4, 5, 11], [0, 1, 2, 3, 11], [0, 1, 2, 3, 11], [11], [11], [9, 10, 11], [8, 10, 11, 12], [8, 9, 11, 12, 13], [0, 1, 2, 3, 4, 5, 6, 7, 8, 9, 10], [9, 10], [10], []]
 | 11 => [[4, 5, 11], [4, 5, 11], [4, 5, 11], [4, 5, 11], [0, 1, 2, 3, 11], [0, 1, 2, 3, 11], [11], [11], [9, 10, 11], [8, 10, 11, 12], [8, 9, 11, 12, 13], [0, 1, 2, 3, 4, 5, 6, 7, 8, 9, 10], [9, 10], [10], []]
 | 19 => [[4, 5, 6, 7, 13], [4, 5, 6, 7, 13], [4, 5, 6, 7, 13], [4, 5, 6, 7, 13], [0, 1, 2, 3, 6, 7, 13], [0, 1, 2, 3, 6, 7, 13], [0, 1, 2, 3, 4, 5, 13], [0, 1, 2, 3, 4, 5, 13], [13], [13], [11, 12, 13], [10, 12, 13, 14], [10, 11, 13, 14, 15], [0, 1, 2, 3, 4, 5, 6, 7, 8, 9, 10, 11, 12], [11, 12], [12], []]
 | _ => []
def od131 : Nat → List (List Nat)
 | 2 => [[4, 5, 11, 12], [4, 5, 11, 12], [4, 5, 11, 12], [4, 5, 11, 12], [0, 1, 2, 3, 11, 12], [0, 1, 2, 3, 11, 12], [11, 12], [11, 12], [9, 10, 11, 12], [8, 10, 11, 12, 13], [8, 9, 11, 12, 13, 14], [0, 1, 2, 3, 4, 5, 6, 7, 8, 9, 10, 12], [0, 1, 2, 3, 4, 5, 6, 7, 8, 9, 10, 11], [9, 10], [10], []]
 | _ => []
def od134 : Nat → List (List Nat)
 | 1 => [[4, 5, 11], [4, 5, 11], [4, 5, 11], [4, 5, 11], [0, 1, 2, 3, 11], [0, 1, 2, 3, 11], [11], [11], [9, 10, 11], [8, 10, 11, 12], [8, 9, 11, 12, 13], [0, 1, 2, 3, 4, 5, 6, 7, 8, 9, 10], [9, 10], [10], []]
 | 5 => [[4, 5, 6, 12], [4, 5, 6, 12], [4, 5, 6, 12], [4, 5, 6, 12], [0, 1, 2, 3, 6, 12], [0, 1, 2, 3, 6, 12], [0, 1, 2, 3, 4, 5, 12], [12], [12], [10, 11, 12], [9, 11, 12, 13], [9, 10, 12, 13, 14], [0, 1, 2, 3, 4, 5, 6, 7, 8, 9, 10, 11], [10, 11], [11], []]
 | _ => []
def od140 : Nat → List (List Nat)
 | 3 => [[4, 5, 6, 7, 8, 9, 10, 13], [4, 5, 6, 7, 8, 9, 10, 13], [4, 5, 6, 7, 8, 9, 10, 13], [4, 5, 6, 7, 8, 9, 10, 13], [0, 1, 2, 3, 9, 13], [0, 1, 2, 3, 9, 13], [0, 1, 2, 3, 9, 13], [0, 1, 2, 3, 9, 13], [0, 1, 2, 3, 9, 13], [0, 1, 2, 3, 4, 5, 6, 7, 8, 13], [0, 1, 2, 3, 13], [13], [13], [0, 1, 2, 3, 4, 5, 6, 7, 8, 9, 10, 11, 12]]
 | 9 => [[1, 2, 3, 4, 5, 6, 7, 8, 9, 10, 11, 12], [0, 5, 6, 7, 8, 9, 10, 11], [0, 5, 6, 7, 8, 9, 10, 11], [0, 5, 6, 7, 8, 9, 10, 11], [0, 5, 6, 7, 8, 9, 10, 11], [0, 1, 2, 3, 4, 10], [0, 1, 2, 3, 4, 10], [0, 1, 2, 3, 4, 10], [0, 1, 2, 3, 4, 10], [0, 1, 2, 3, 4, 10], [0, 1, 2, 3, 4, 5, 6, 7, 8, 9], [0, 1, 2, 3, 4], [0], [], [], []]
 | _ => []
def od159 : Nat → List (List Nat)
 | 12 => [[1, 2, 3, 4, 5, 6], [0, 4, 5, 6], [0, 4, 5, 6], [0, 4, 5, 6], [0, 1, 2, 3], [0, 1, 2, 3], [0, 1, 2, 3], [], [9, 10], [8, 10], [8, 9], [], [], []]
 | 14 => [[1, 2, 3, 4, 5, 6], [0, 4, 5, 6], [0, 4, 5, 6], [0, 4, 5, 6], [0, 1, 2, 3], [0, 1, 2, 3], [0, 1, 2, 3], [], [9, 10], [8, 10], [8, 9], [], [], []]
 | 16 => [[1, 2, 3, 4, 5, 6], [0, 4, 5, 6], [0, 4, 5, 6], [0, 4, 5, 6], [0, 1, 2, 3], [0, 1, 2, 3], [0, 1, 2, 3], [], [9, 10], [8, 10], [8, 9], [], [], []]
 | _ => []
def od160 : Nat → List (List Nat)
 | 5 => [[1], [0, 2, 3], [1], [1], [], []]
 | 7 => [[1, 2, 3, 4, 5, 6, 7, 8], [0, 4, 5, 6], [0, 4, 5, 6], [0, 4, 5, 6], [0, 1, 2, 3], [0, 1, 2, 3], [0, 1, 2, 3], [0], [0], [], []]
 | 10 => [[1], [0, 2, 3], [1], [1], [], []]
 | 13 => [[1, 2, 3, 4, 5, 6, 7, 8], [0, 4, 5, 6], [0, 4, 5, 6], [0, 4, 5, 6], [0, 1, 2, 3], [0, 1, 2, 3], [0, 1, 2, 3], [0], [0], [], []]
 | 16 => [[1], [0, 2, 3], [1], [1], [], []]
 | 18 => [[1, 2, 3, 4, 5, 6, 7, 8], [0, 4, 5, 6], [0, 4, 5, 6], [0, 4, 5, 6], [0, 1, 2, 3], [0, 1, 2, 3], [0, 1, 2, 3], [0], [0], [], []]
 | 19 => [[1, 2, 3], [0], [0], [0], [], []]
 | 21 => [[1, 2, 3, 4, 5], [0], [0], [0], [0], [0], [], []]
 | _ => []
def od161 : Nat → List (List Nat)
 | 6 => [[1, 2, 3, 4, 5, 6, 7, 8], [0, 4, 5, 6], [0, 4, 5, 6], [0, 4, 5, 6], [0, 1, 2, 3], [0, 1, 2, 3], [0, 1, 2, 3], [0], [0], [], []]
 | _ => []
def od169 : Nat → List (List Nat)
 | 3 => [[4, 5, 6, 7, 8], [4, 5, 6, 7, 8], [4, 5, 6, 7, 8], [4, 5, 6, 7, 8], [0, 1, 2, 3, 5, 6, 7, 8], [0, 1, 2, 3, 4, 6, 7], [0, 1, 2, 3, 4, 5], [0, 1, 2, 3, 4, 5], [0, 1, 2, 3, 4], [], []]
 | 6 => [[4, 5, 6, 7, 8], [4, 5, 6, 7, 8], [4, 5, 6, 7, 8], [4, 5, 6, 7, 8], [0, 1, 2, 3, 5, 6, 8], [0, 1, 2, 3, 4, 6, 8], [0, 1, 2, 3, 4, 5, 8], [0, 1, 2, 3, 8], [0, 1, 2, 3, 4, 5, 6, 7], [], []]
 | _ => []
def od175 : Nat → List (List Nat)
 | 6 => [[4, 5, 6, 7, 8, 9, 10, 11], [4, 5, 6, 7, 8, 9, 10, 11], [4, 5, 6, 7, 8, 9, 10, 11], [4, 5, 6, 7, 8, 9, 10, 11], [0, 1, 2, 3, 5, 6, 7, 8, 9, 10, 11], [0, 1, 2, 3, 4, 6, 7, 8, 9, 10], [0, 1, 2, 3, 4, 5, 8], [0, 1, 2, 3, 4, 5, 8], [0, 1, 2, 3, 4, 5, 6, 7], [0, 1, 2, 3, 4, 5], [0, 1, 2, 3, 4, 5], [0, 1, 2, 3, 4], [], []]
 | 9 => [[4, 6, 7, 8, 9, 10, 11, 12, 13, 14, 15, 16, 17], [4, 6, 7, 8, 9, 10, 11, 12, 13, 14, 15, 16, 17], [4, 6, 7, 8, 9, 10, 11, 12, 13, 14, 15, 16, 17], [4, 6, 7, 8, 9, 10, 11, 12, 13, 14, 15, 16, 17], [0, 1, 2, 3, 6, 7, 8, 9, 10, 11, 12, 13, 14, 15, 16, 17], [6, 7, 8, 9, 10, 11, 12, 13, 14, 15, 16, 17], [0, 1, 2, 3, 4, 5, 8, 9, 10, 11, 12, 13, 14, 15, 16], [0, 1, 2, 3, 4, 5, 8, 9, 10, 11, 12, 13, 14, 15, 16], [0, 1, 2, 3, 4, 5, 6, 7, 12, 13, 14, 15], [0, 1, 2, 3, 4, 5, 6, 7, 12, 13, 14, 15], [0, 1, 2, 3, 4, 5, 6, 7, 12, 13, 14, 15], [0, 1, 2, 3, 4, 5, 6, 7, 12, 13, 14, 15], [0, 1, 2, 3, 4, 5, 6, 7, 8, 9, 10, 11, 13, 14, 15], [0, 1, 2, 3, 4, 5, 6, 7, 8, 9, 10, 11, 12, 14], [0, 1, 2, 3, 4, 5, 6, 7, 8, 9, 10, 11, 12, 13], [0, 1, 2, 3, 4, 5, 6, 7, 8, 9, 10, 11, 12], [0, 1, 2, 3, 4, 5, 6, 7], [0, 1, 2, 3, 4, 5], []]
 | _ => []
def od177 : Nat → List (List Nat)
 | 6 => [[2, 5, 6, 7, 8, 9], [2, 5, 6, 7, 8, 9], [0, 1, 5, 6, 7, 8, 9], [5, 6, 7, 8, 9], [5, 6, 7, 8, 9], [0, 1, 2, 3, 4, 7, 10], [0, 1, 2, 3, 4, 7, 10], [0, 1, 2, 3, 4, 5, 6, 10], [0, 1, 2, 3, 4, 10], [0, 1, 2, 3, 4, 10], [5, 6, 7, 8, 9], [], []]
 | _ => []
def od179 : Nat → List (List Nat)
 | 10 => [[1, 4, 5, 6], [0, 4, 5, 6], [4, 5, 6], [4, 5, 6], [0, 1, 2, 3, 6], [0, 1, 2, 3, 6], [0, 1, 2, 3, 4, 5], [], [], []]
 | _ => []
def od181 : Nat → List (List Nat)
 | 9 => [[1, 3, 4, 5, 6], [0, 3, 4, 5, 6], [3, 4, 5, 6], [0, 1, 2, 4, 7], [0, 1, 2, 3, 7], [0, 1, 2, 7], [0, 1, 2, 7], [3, 4, 5, 6], [], []]
 | _ => []
def od182 : Nat → List (List Nat)
 | 2 => [[2, 3], [2, 3], [0, 1, 4], [0, 1, 4], [2, 3], []]
 | _ => []
def od183 : Nat → List (List Nat)
 | 17 => [[3, 4, 5], [3, 4, 5], [3, 4, 5], [0, 1, 2, 6], [0, 1, 2, 6], [0, 1, 2, 6], [3, 4, 5], []]
 | _ => []
def od189 : Nat → List (List Nat)
 | 6 => [[1], [0, 2], [1], [], []]
 | _ => []
def od193 : Nat → List (List Nat)
 | 8 => [[1, 3, 4, 5, 6], [0, 3, 4, 5, 6], [3, 4, 5, 6], [0, 1, 2, 4, 7], [0, 1, 2, 3, 7], [0, 1, 2, 7], [0, 1, 2, 7], [3, 4, 5, 6], [], []]
 | _ => []
def od195 : Nat → List (List Nat)
 | 5 => [[1, 2, 3, 4, 5, 6, 7, 8, 9, 10, 11], [0, 2, 3, 4, 5, 6, 7, 8, 9, 10], [0, 1, 3, 6, 7, 8, 9, 10], [0, 1, 2, 6, 7, 8, 9, 10], [0, 1, 6, 7, 8, 9, 10], [0, 1, 6, 7, 8, 9, 10], [0, 1, 2, 3, 4, 5, 7, 8], [0, 1, 2, 3, 4, 5, 6], [0, 1, 2, 3, 4, 5, 6], [0, 1, 2, 3, 4, 5], [0, 1, 2, 3, 4, 5], [0], []]
 | _ => []
def od197 : Nat → List (List Nat)
 | 4 => [[1, 2, 3, 4], [0], [0], [0], [0], []]
 | _ => []
def od198 : Nat → List (List Nat)
 | 2 => [[1, 2, 3, 4], [0], [0], [0], [0], []]
 | 9 => [[1, 2, 3, 4], [0], [0], [0], [0], []]
 | _ => []
def od227 : Nat → List (List Nat)
 | 0 => [[3, 4, 5], [3, 4, 5], [3, 4, 5], [0, 1, 2], [0, 1, 2], [0, 1, 2], []]
 | _ => []
def od231 : Nat → List (List Nat)
 | 2 => [[4, 7, 8, 9, 10, 11, 12, 13, 14], [4, 7, 8, 9, 10, 11, 12, 13, 14], [4, 7, 8, 9, 10, 11, 12, 13, 14], [4, 7, 8, 9, 10, 11, 12, 13, 14], [0, 1, 2, 3, 7, 8, 9, 10, 11, 12, 13, 14], [7, 8, 9, 10, 11, 12, 13, 14], [7, 8, 9, 10, 11, 12, 13, 14], [0, 1, 2, 3, 4, 5, 6, 12, 15], [0, 1, 2, 3, 4, 5, 6, 12, 15], [0, 1, 2, 3, 4, 5, 6, 12, 15], [0, 1, 2, 3, 4, 5, 6, 12, 15], [0, 1, 2, 3, 4, 5, 6, 12, 15], [0, 1, 2, 3, 4, 5, 6, 7, 8, 9, 10, 11, 15], [0, 1, 2, 3, 4, 5, 6, 15], [0, 1, 2, 3, 4, 5, 6, 15], [7, 8, 9, 10, 11, 12, 13, 14], []]
 | _ => []
def od235 : Nat → List (List Nat)
 | 3 => [[4, 7, 9, 10, 11, 12, 13, 14, 15, 16, 17, 18], [4, 7, 9, 10, 11, 12, 13, 14, 15, 16, 17, 18], [4, 7, 9, 10, 11, 12, 13, 14, 15, 16, 17, 18], [4, 7, 9, 10, 11, 12, 13, 14, 15, 16, 17, 18], [0, 1, 2, 3, 7, 9, 10, 11, 12, 13, 14, 15, 16, 17, 18], [7, 9, 10, 11, 12, 13, 14, 15, 16, 17, 18], [7, 9, 10, 11, 12, 13, 14, 15, 16, 17, 18], [0, 1, 2, 3, 4, 5, 6, 9, 10, 11, 12, 13, 14, 15, 16, 17, 18], [9, 10, 11, 12, 13, 14, 15, 16, 17, 18], [0, 1, 2, 3, 4, 5, 6, 7, 8, 13, 16, 19], [0, 1, 2, 3, 4, 5, 6, 7, 8, 13, 16, 19], [0, 1, 2, 3, 4, 5, 6, 7, 8, 13, 16, 19], [0, 1, 2, 3, 4, 5, 6, 7, 8, 13, 16, 19], [0, 1, 2, 3, 4, 5, 6, 7, 8, 9, 10, 11, 12, 16, 19], [0, 1, 2, 3, 4, 5, 6, 7, 8, 16, 19], [0, 1, 2, 3, 4, 5, 6, 7, 8, 16, 19], [0, 1, 2, 3, 4, 5, 6, 7, 8, 9, 10, 11, 12, 13, 14, 15, 19], [0, 1, 2, 3, 4, 5, 6, 7, 8, 19], [0, 1, 2, 3, 4, 5, 6, 7, 8, 19], [9, 10, 11, 12, 13, 14, 15, 16, 17, 18], []]
 | _ => []
def od236 : Nat → List (List Nat)
 | 5 => [[4, 5, 6], [4, 5, 6], [4, 5, 6], [4, 5, 6], [0, 1, 2, 3, 7], [0, 1, 2, 3, 7], [0, 1, 2, 3, 7], [4, 5, 6], []]
 | 8 => [[4, 5, 11], [4, 5, 11], [4, 5, 11], [4, 5, 11], [0, 1, 2, 3, 11], [0, 1, 2, 3, 11], [11], [11], [9, 10, 11], [8, 10, 11, 12], [8, 9, 11, 12, 13], [0, 1, 2, 3, 4, 5, 6, 7, 8, 9, 10], [9, 10], [10], []]
 | 11 => [[4, 5, 6, 7, 13], [4, 5, 6, 7, 13], [4, 5, 6, 7, 13], [4, 5, 6, 7, 13], [0, 1, 2, 3, 6, 7, 13], [0, 1, 2, 3, 6, 7, 13], [0, 1, 2, 3, 4, 5, 13], [0, 1, 2, 3, 4, 5, 13], [13], [13], [11, 12, 13], [10, 12, 13, 14], [10, 11, 13, 14, 15], [0, 1, 2, 3, 4, 5, 6, 7, 8, 9, 10, 11, 12], [11, 12], [12], []]
 | 12 => [[1, 2], [0, 3], [0, 3], [1, 2], []]
 | 15 => [[4, 5, 11], [4, 5, 11], [4, 5, 11], [4, 5, 11], [0, 1, 2, 3, 11], [0, 1, 2, 3, 11], [11], [11], [9, 10, 11], [8, 10, 11, 12], [8, 9, 11, 12, 13], [0, 1, 2, 3, 4, 5, 6, 7, 8, 9, 10], [9, 10], [10], []]
 | 17 => [[1, 2, 3, 4, 5, 6, 7, 8, 9, 10, 13, 14, 15], [0, 4, 5, 6, 7, 8, 13, 14, 15], [0, 4, 5, 6, 7, 8, 13, 14, 15], [0, 4, 5, 6, 7, 8, 13, 14, 15], [0, 1, 2, 3, 5, 6, 7, 8, 13, 14, 15], [0, 1, 2, 3, 4, 7, 8, 13, 14, 15], [0, 1, 2, 3, 4, 7, 8, 13, 14, 15], [0, 1, 2, 3, 4, 5, 6, 13, 14, 15], [0, 1, 2, 3, 4, 5, 6, 13, 14, 15], [0, 13, 14, 15], [0, 13, 14, 15], [13, 14, 15], [13, 14, 15], [0, 1, 2, 3, 4, 5, 6, 7, 8, 9, 10, 11, 12, 16], [0, 1, 2, 3, 4, 5, 6, 7, 8, 9, 10, 11, 12, 16], [0, 1, 2, 3, 4, 5, 6, 7, 8, 9, 10, 11, 12, 16], [13, 14, 15], []]
 | 29 => [[1, 2, 5, 6, 7], [0, 5, 6, 7], [0, 5, 6, 7], [5, 6, 7], [5, 6, 7], [0, 1, 2, 3, 4], [0, 1, 2, 3, 4], [0, 1, 2, 3, 4], [], [13], [13], [13], [13], [9, 10, 11, 12], []]
 | _ => []
def od242 : Nat → List (List Nat)
 | 4 => [[1, 2, 7, 8], [0, 7, 8], [0, 7, 8], [7, 8], [7, 8], [6, 7, 8], [5, 7, 8, 9], [0, 1, 2, 3, 4, 5, 6, 8], [0, 1, 2, 3, 4, 5, 6, 7], [6], []]
 | _ => []
def od270 : Nat → List (List Nat)
 | 8 => [[1, 2, 3, 5, 6, 7], [0, 2, 3, 5, 6, 7], [0, 1, 5, 6, 7], [0, 1, 5, 6, 7], [5, 6, 7], [0, 1, 2, 3, 4, 8], [0, 1, 2, 3, 4, 8], [0, 1, 2, 3, 4, 8], [5, 6, 7], []]
 | 12 => [[1, 2, 3, 4, 5, 6, 8, 9, 10], [0, 2, 3, 5, 6, 8, 9, 10], [0, 1, 3, 5, 6, 8, 9, 10], [0, 1, 2, 5, 6, 8, 9, 10], [0, 5, 6, 8, 9, 10], [0, 1, 2, 3, 4, 8, 9, 10], [0, 1, 2, 3, 4, 8, 9, 10], [8, 9, 10], [0, 1, 2, 3, 4, 5, 6, 7, 11], [0, 1, 2, 3, 4, 5, 6, 7, 11], [0, 1, 2, 3, 4, 5, 6, 7, 11], [8, 9, 10], []]
 | 15 => [[1, 2, 3, 5, 6, 7], [0, 2, 3, 5, 6, 7], [0, 1, 5, 6, 7], [0, 1, 5, 6, 7], [5, 6, 7], [0, 1, 2, 3, 4, 8], [0, 1, 2, 3, 4, 8], [0, 1, 2, 3, 4, 8], [5, 6, 7], []]
 | _ => []
def od276 : Nat → List (List Nat)
 | 8 => [[1, 4, 5, 6, 7], [0, 4, 5, 6, 7], [4, 5, 6, 7], [4, 5, 6, 7], [0, 1, 2, 3, 5], [0, 1, 2, 3, 4], [0, 1, 2, 3], [0, 1, 2, 3], [], []]
 | _ => []
def od277 : Nat → List (List Nat)
 | 13 => [[1], [0, 2], [1], []]
 | _ => []
def od301 : Nat → List (List Nat)
 | 5 => [[1, 4, 5, 6, 7, 9], [0, 4, 5, 6, 7, 9], [4, 5, 6, 7, 9], [4, 5, 6, 7, 9], [0, 1, 2, 3, 5, 9], [0, 1, 2, 3, 4, 9], [0, 1, 2, 3, 9], [0, 1, 2, 3, 9], [9], [0, 1, 2, 3, 4, 5, 6, 7, 8], [], []]
 | _ => []
def od302 : Nat → List (List Nat)
 | 4 => [[1, 4, 5, 6, 7], [0, 4, 5, 6, 7], [4, 5, 6, 7], [4, 5, 6, 7], [0, 1, 2, 3, 5], [0, 1, 2, 3, 4], [0, 1, 2, 3], [0, 1, 2, 3], []]
 | 6 => [[1, 4, 5, 6, 7], [0, 4, 5, 6, 7], [4, 5, 6, 7], [4, 5, 6, 7], [0, 1, 2, 3, 5], [0, 1, 2, 3, 4], [0, 1, 2, 3], [0, 1, 2, 3], []]
 | _ => []
def od303 : Nat → List (List Nat)
 | 5 => [[1, 5, 6, 7, 8, 10], [0, 5, 6, 7, 8, 10], [5, 6, 7, 8, 10], [5, 6, 7, 8, 10], [5, 6, 7, 8, 10], [0, 1, 2, 3, 4, 6, 10], [0, 1, 2, 3, 4, 5, 10], [0, 1, 2, 3, 4, 10], [0, 1, 2, 3, 4, 10], [10], [0, 1, 2, 3, 4, 5, 6, 7, 8, 9], [], []]
 | _ => []
end Go.Am
end
