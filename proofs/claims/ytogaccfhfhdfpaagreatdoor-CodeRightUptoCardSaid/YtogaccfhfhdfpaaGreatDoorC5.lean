/-
  Texts of one proof, one behind the other.
-/
import Derived.Test.YtogaccfhfhdfpaaGreatDoorC1
import Derived.Test.YtogaccfhfhdfpaaGreatDoorC2
import Derived.Test.YtogaccfhfhdfpaaGreatDoorC3
import Derived.Test.YtogaccfhfhdfpaaGreatDoorC4
import Derived.Test.YtogaccfhfhdfpaaGreatDoorProg
import Derived.KernelRfl
set_option linter.all false
section
namespace Go.Am
open Go Go.Proofs
set_option maxRecDepth 100000
set_option maxHeartbeats 8000000
abbrev T2(t:Nat)(k:TK)(s:Nat):Prop:=tk Tryz.prog t=k/\fW Tryz.prog t=some s
abbrev T3(t:Nat)(k:TK)(s:Nat)(z:List AV):Prop:=tk Tryz.prog t=k/\fW Tryz.prog t=some s/\tA Tryz.prog t=some z
abbrev T5(t:Nat)(k:TK)(s:Nat)(z:List AV)(b:Nat)(d:D):Prop:=tk Tryz.prog t=k/\fW Tryz.prog t=some s/\tA Tryz.prog t=some z/\zE Tryz.prog t=some b/\np Tryz.prog t=some d
abbrev T6(t s:Nat)(d:List D)(b:Nat):Prop:=tk Tryz.prog t=.struct/\fW Tryz.prog t=some s/\tA Tryz.prog t=some (d.map .d)/\zE Tryz.prog t=some b/\np Tryz.prog t=some (.agg d)
abbrev TI(t:Nat)(k:IntKind)(b:Nat):Prop:=T5 t (.int k) 1 [.d (.int k 0)] b (.int k 0)
abbrev FF(t i o y:Nat):Prop:=AO Tryz.prog t i=some o/\MT Tryz.prog t i=some y
@[simp] def avy:T2 1 (.func) 1:=by and_intros<;>kernel_rfl
@[simp] def avz:TI 2 .i64 8:=by and_intros<;>kernel_rfl
@[simp] def avA:TI 3 .i64 8:=by and_intros<;>kernel_rfl
@[simp] def avB:T5 4 (.bool) 1 ([.d (.bool false)]) 1 (.bool false):=by and_intros<;>kernel_rfl
@[simp] def avC:TI 5 .u8 1:=by and_intros<;>kernel_rfl
@[simp] def avD:TI 6 .u8 1:=by and_intros<;>kernel_rfl
@[simp] def avE:T6 7 4 [.int .i64 0,.int .i64 0,.bool false,.int .u8 0] 24/\FF 7 0 0 2/\FF 7 1 1 3/\FF 7 2 2 4/\FF 7 3 3 6/\bG Tryz.prog 7=some [(0,1),(1,1),(2,1),(3,1)]:=by and_intros<;>kernel_rfl
@[simp] def avF:T6 8 4 [.int .i64 0,.int .i64 0,.bool false,.int .u8 0] 24/\FF 8 0 0 2/\FF 8 1 1 3/\FF 8 2 2 4/\FF 8 3 3 6/\bG Tryz.prog 8=some [(0,1),(1,1),(2,1),(3,1)]:=by and_intros<;>kernel_rfl
@[simp] def avG:T5 9 (.str) 1 ([.d (.str [])]) 16 (.str [])/\fJ Tryz.prog 9=true:=by and_intros<;>kernel_rfl
@[simp] def auj:T5 10 (.str) 1 ([.d (.str [])]) 16 (.str [])/\fJ Tryz.prog 10=true:=by and_intros<;>kernel_rfl
@[simp] def auk:T5 11 (.str) 1 ([.d (.str [])]) 16 (.str [])/\fJ Tryz.prog 11=true:=by and_intros<;>kernel_rfl
@[simp] def aul:TI 12 .u64 8:=by and_intros<;>kernel_rfl
@[simp] def aum:T6 13 2 [.str [],.int .u64 0] 24/\FF 13 0 0 9/\FF 13 1 1 12/\bG Tryz.prog 13=some [(0,1),(1,1)]:=by and_intros<;>kernel_rfl
@[simp] def aun:T6 14 2 [.str [],.int .u64 0] 24/\FF 14 0 0 9/\FF 14 1 1 12/\bG Tryz.prog 14=some [(0,1),(1,1)]:=by and_intros<;>kernel_rfl
@[simp] def auo:T2 15 (.ptr 334) 1:=by and_intros<;>kernel_rfl
@[simp] def aup:T2 16 (.ptr 337) 1:=by and_intros<;>kernel_rfl
@[simp] def auq:T2 17 (.ptr 345) 1:=by and_intros<;>kernel_rfl
@[simp] def aur:T3 18 (.struct) 1 ([.lit (.pointer none)])/\FF 18 0 0 17/\bG Tryz.prog 18=some [(0,1)]:=by and_intros<;>kernel_rfl
@[simp] def aus:T3 19 (.struct) 1 ([.lit (.pointer none)])/\FF 19 0 0 17/\bG Tryz.prog 19=some [(0,1)]:=by and_intros<;>kernel_rfl
@[simp] def aut:T2 20 (.iface) 1:=by and_intros<;>kernel_rfl
@[simp] def auu:TI 21 .i32 4:=by and_intros<;>kernel_rfl
@[simp] def auv:T5 22 (.slice 59) 1 ([.lit (.slice none 0 0)]) 24 (.list [])/\fJ Tryz.prog 22=true:=by and_intros<;>kernel_rfl
@[simp] def auw:T5 23 (.slice 118) 1 ([.lit (.slice none 0 0)]) 24 (.list [])/\fJ Tryz.prog 23=true:=by and_intros<;>kernel_rfl
@[simp] def auy:T5 24 (.struct) 3 ([.d (.str []),.lit (.slice none 0 0),.lit (.slice none 0 0)]) 64 (.agg ([.str [],.list [],.list []]))/\FF 24 0 0 9/\FF 24 1 1 22/\FF 24 2 2 23/\bG Tryz.prog 24=some [(0,1),(1,1),(2,1)]:=by and_intros<;>kernel_rfl
@[simp] def auz:T5 25 (.struct) 3 ([.d (.str []),.lit (.slice none 0 0),.lit (.slice none 0 0)]) 64 (.agg ([.str [],.list [],.list []]))/\FF 25 0 0 9/\FF 25 1 1 22/\FF 25 2 2 23/\bG Tryz.prog 25=some [(0,1),(1,1),(2,1)]:=by and_intros<;>kernel_rfl
@[simp] def auA:T5 26 (.slice 2) 1 ([.lit (.slice none 0 0)]) 24 (.list [])/\fJ Tryz.prog 26=true:=by and_intros<;>kernel_rfl
@[simp] def auB:T2 27 (.func) 1:=by and_intros<;>kernel_rfl
@[simp] def auC:T2 28 (.func) 1:=by and_intros<;>kernel_rfl
@[simp] def auD:T6 29 2 [.int .i64 0,.int .i64 0] 16/\FF 29 0 0 3/\FF 29 1 1 3/\bG Tryz.prog 29=some [(0,1),(1,1)]/\cN Tryz.prog 29=some [.int .i64,.int .i64]:=by and_intros<;>kernel_rfl
@[simp] def auE:T6 30 2 [.int .i64 0,.int .i64 0] 16/\FF 30 0 0 3/\FF 30 1 1 3/\bG Tryz.prog 30=some [(0,1),(1,1)]/\cN Tryz.prog 30=some [.int .i64,.int .i64]:=by and_intros<;>kernel_rfl
@[simp] def auF:T2 31 (.func) 1:=by and_intros<;>kernel_rfl
@[simp] def auG:T5 32 (.slice 54) 1 ([.lit (.slice none 0 0)]) 24 (.list [])/\fJ Tryz.prog 32=true:=by and_intros<;>kernel_rfl
@[simp] def auH:T5 33 (.struct) 3 ([.lit (.slice none 0 0),.d (.int .i64 0),.d (.int .i64 0)]) 40 (.agg ([.list [],.int .i64 0,.int .i64 0]))/\FF 33 0 0 32/\FF 33 1 1 3/\FF 33 2 2 3/\bG Tryz.prog 33=some [(0,1),(1,1),(2,1)]:=by and_intros<;>kernel_rfl
@[simp] def auI:T5 34 (.struct) 3 ([.lit (.slice none 0 0),.d (.int .i64 0),.d (.int .i64 0)]) 40 (.agg ([.list [],.int .i64 0,.int .i64 0]))/\FF 34 0 0 32/\FF 34 1 1 3/\FF 34 2 2 3/\bG Tryz.prog 34=some [(0,1),(1,1),(2,1)]:=by and_intros<;>kernel_rfl
@[simp] def auJ:TI 35 .i64 8:=by and_intros<;>kernel_rfl
@[simp] def auK:T2 46 (.func) 1:=by and_intros<;>kernel_rfl
@[simp] def auL:T6 48 5 [.int .i64 0,.str [],.int .i64 0,.int .i64 0,.int .i64 0] 48/\FF 48 0 0 3/\FF 48 1 1 9/\FF 48 2 2 2/\FF 48 3 3 3/\FF 48 4 4 3/\bG Tryz.prog 48=some [(0,1),(1,1),(2,1),(3,1),(4,1)]/\cN Tryz.prog 48=some [.int .i64,.str,.int .i64,.int .i64,.int .i64]:=by and_intros<;>kernel_rfl
@[simp] def auM:T6 49 5 [.int .i64 0,.str [],.int .i64 0,.int .i64 0,.int .i64 0] 48/\FF 49 0 0 3/\FF 49 1 1 9/\FF 49 2 2 2/\FF 49 3 3 3/\FF 49 4 4 3/\bG Tryz.prog 49=some [(0,1),(1,1),(2,1),(3,1),(4,1)]/\cN Tryz.prog 49=some [.int .i64,.str,.int .i64,.int .i64,.int .i64]:=by and_intros<;>kernel_rfl
@[simp] def auN:T6 53 5 [.int .i64 0,.int .i64 0,.int .i64 0,.int .i64 0,.int .i64 0] 40/\FF 53 0 0 3/\FF 53 1 1 3/\FF 53 2 2 3/\FF 53 3 3 2/\FF 53 4 4 2/\bG Tryz.prog 53=some [(0,1),(1,1),(2,1),(3,1),(4,1)]/\cN Tryz.prog 53=some [.int .i64,.int .i64,.int .i64,.int .i64,.int .i64]:=by and_intros<;>kernel_rfl
@[simp] def auO:T6 54 5 [.int .i64 0,.int .i64 0,.int .i64 0,.int .i64 0,.int .i64 0] 40/\FF 54 0 0 3/\FF 54 1 1 3/\FF 54 2 2 3/\FF 54 3 3 2/\FF 54 4 4 2/\bG Tryz.prog 54=some [(0,1),(1,1),(2,1),(3,1),(4,1)]/\cN Tryz.prog 54=some [.int .i64,.int .i64,.int .i64,.int .i64,.int .i64]:=by and_intros<;>kernel_rfl
@[simp] def auP:T2 57 (.func) 1:=by and_intros<;>kernel_rfl
@[simp] def auQ:T6 58 8 [.str [],.int .i64 0,.int .i64 0,.bool false,.int .i64 0,.int .i64 0,.int .i64 0,.int .i64 0] 72/\FF 58 0 0 9/\FF 58 1 1 3/\FF 58 2 2 3/\FF 58 3 3 4/\FF 58 4 4 2/\FF 58 5 5 2/\FF 58 6 6 2/\FF 58 7 7 3/\bG Tryz.prog 58=some [(0,1),(1,1),(2,1),(3,1),(4,1),(5,1),(6,1),(7,1)]/\cN Tryz.prog 58=some [.str,.int .i64,.int .i64,.bool,.int .i64,.int .i64,.int .i64,.int .i64]:=by and_intros<;>kernel_rfl
@[simp] def auR:T6 59 8 [.str [],.int .i64 0,.int .i64 0,.bool false,.int .i64 0,.int .i64 0,.int .i64 0,.int .i64 0] 72/\FF 59 0 0 9/\FF 59 1 1 3/\FF 59 2 2 3/\FF 59 3 3 4/\FF 59 4 4 2/\FF 59 5 5 2/\FF 59 6 6 2/\FF 59 7 7 3/\bG Tryz.prog 59=some [(0,1),(1,1),(2,1),(3,1),(4,1),(5,1),(6,1),(7,1)]/\cN Tryz.prog 59=some [.str,.int .i64,.int .i64,.bool,.int .i64,.int .i64,.int .i64,.int .i64]:=by and_intros<;>kernel_rfl
@[simp] def auS:T2 64 (.func) 1:=by and_intros<;>kernel_rfl
@[simp] def auT:T2 65 (.func) 1:=by and_intros<;>kernel_rfl
@[simp] def auU:T5 66 (.slice 3) 1 ([.lit (.slice none 0 0)]) 24 (.list [])/\fJ Tryz.prog 66=true:=by and_intros<;>kernel_rfl
@[simp] def auV:T5 67 (.struct) 3 ([.lit (.slice none 0 0),.d (.int .i64 0),.lit (.slice none 0 0)]) 56 (.agg ([.list [],.int .i64 0,.list []]))/\FF 67 0 0 66/\FF 67 1 1 3/\FF 67 2 2 26/\bG Tryz.prog 67=some [(0,1),(1,1),(2,1)]:=by and_intros<;>kernel_rfl
@[simp] def auW:T5 68 (.struct) 3 ([.lit (.slice none 0 0),.d (.int .i64 0),.lit (.slice none 0 0)]) 56 (.agg ([.list [],.int .i64 0,.list []]))/\FF 68 0 0 66/\FF 68 1 1 3/\FF 68 2 2 26/\bG Tryz.prog 68=some [(0,1),(1,1),(2,1)]:=by and_intros<;>kernel_rfl
@[simp] def auX:T2 70 (.ptr 73) 1:=by and_intros<;>kernel_rfl
@[simp] def auY:T5 71 (.slice 66) 1 ([.lit (.slice none 0 0)]) 24 (.list [])/\fJ Tryz.prog 71=true:=by and_intros<;>kernel_rfl
@[simp] def auZ:T5 72 (.struct) 9 ([.d (.str []),.lit (.slice none 0 0),.lit (.slice none 0 0),.lit (.slice none 0 0),.d (.int .i64 0),.d (.int .i64 0),.d (.int .i64 0),.lit (.slice none 0 0),.lit (.slice none 0 0)]) 160 (.agg ([.str [],.list [],.list [],.list [],.int .i64 0,.int .i64 0,.int .i64 0,.list [],.list []]))/\FF 72 0 0 25/\FF 72 1 3 32/\FF 72 2 4 3/\FF 72 3 5 3/\FF 72 4 6 3/\FF 72 5 7 71/\FF 72 6 8 66/\bG Tryz.prog 72=some [(0,3),(3,1),(4,1),(5,1),(6,1),(7,1),(8,1)]:=by and_intros<;>kernel_rfl
@[simp] def au0:T5 73 (.struct) 9 ([.d (.str []),.lit (.slice none 0 0),.lit (.slice none 0 0),.lit (.slice none 0 0),.d (.int .i64 0),.d (.int .i64 0),.d (.int .i64 0),.lit (.slice none 0 0),.lit (.slice none 0 0)]) 160 (.agg ([.str [],.list [],.list [],.list [],.int .i64 0,.int .i64 0,.int .i64 0,.list [],.list []]))/\FF 73 0 0 25/\FF 73 1 3 32/\FF 73 2 4 3/\FF 73 3 5 3/\FF 73 4 6 3/\FF 73 5 7 71/\FF 73 6 8 66/\bG Tryz.prog 73=some [(0,3),(3,1),(4,1),(5,1),(6,1),(7,1),(8,1)]:=by and_intros<;>kernel_rfl
@[simp] def au1:T2 90 (.ptr 93) 1:=by and_intros<;>kernel_rfl
@[simp] def au2:T5 91 (.slice 94) 1 ([.lit (.slice none 0 0)]) 24 (.list [])/\fJ Tryz.prog 91=true:=by and_intros<;>kernel_rfl
@[simp] def au3:T5 92 (.struct) 10 ([.d (.str []),.lit (.slice none 0 0),.lit (.slice none 0 0),.lit (.slice none 0 0),.d (.int .i64 0),.lit (.slice none 0 0),.lit (.slice none 0 0),.lit (.slice none 0 0),.d (.int .i64 0),.d (.int .i64 0)]) 184 (.agg ([.str [],.list [],.list [],.list [],.int .i64 0,.list [],.list [],.list [],.int .i64 0,.int .i64 0]))/\FF 92 0 0 25/\FF 92 1 3 68/\FF 92 2 6 91/\FF 92 3 7 26/\FF 92 4 8 3/\FF 92 5 9 3/\bG Tryz.prog 92=some [(0,3),(3,3),(6,1),(7,1),(8,1),(9,1)]:=by and_intros<;>kernel_rfl
@[simp] def au4:T5 93 (.struct) 10 ([.d (.str []),.lit (.slice none 0 0),.lit (.slice none 0 0),.lit (.slice none 0 0),.d (.int .i64 0),.lit (.slice none 0 0),.lit (.slice none 0 0),.lit (.slice none 0 0),.d (.int .i64 0),.d (.int .i64 0)]) 184 (.agg ([.str [],.list [],.list [],.list [],.int .i64 0,.list [],.list [],.list [],.int .i64 0,.int .i64 0]))/\FF 93 0 0 25/\FF 93 1 3 68/\FF 93 2 6 91/\FF 93 3 7 26/\FF 93 4 8 3/\FF 93 5 9 3/\bG Tryz.prog 93=some [(0,3),(3,3),(6,1),(7,1),(8,1),(9,1)]:=by and_intros<;>kernel_rfl
@[simp] def au5:T5 94 (.slice 142) 1 ([.lit (.slice none 0 0)]) 24 (.list [])/\fJ Tryz.prog 94=true:=by and_intros<;>kernel_rfl
@[simp] def au6:T2 95 (.func) 1:=by and_intros<;>kernel_rfl
@[simp] def au7:T2 99 (.ptr 101) 1:=by and_intros<;>kernel_rfl
@[simp] def arv:T5 100 (.struct) 5 ([.d (.str []),.lit (.slice none 0 0),.lit (.slice none 0 0),.d (.int .i64 0),.d (.int .i64 0)]) 80 (.agg ([.str [],.list [],.list [],.int .i64 0,.int .i64 0]))/\FF 100 0 0 25/\FF 100 1 3 3/\FF 100 2 4 3/\bG Tryz.prog 100=some [(0,3),(3,1),(4,1)]:=by and_intros<;>kernel_rfl
@[simp] def arw:T5 101 (.struct) 5 ([.d (.str []),.lit (.slice none 0 0),.lit (.slice none 0 0),.d (.int .i64 0),.d (.int .i64 0)]) 80 (.agg ([.str [],.list [],.list [],.int .i64 0,.int .i64 0]))/\FF 101 0 0 25/\FF 101 1 3 3/\FF 101 2 4 3/\bG Tryz.prog 101=some [(0,3),(3,1),(4,1)]:=by and_intros<;>kernel_rfl
@[simp] def arx:T2 105 (.func) 1:=by and_intros<;>kernel_rfl
@[simp] def ary:T5 107 (.slice 111) 1 ([.lit (.slice none 0 0)]) 24 (.list [])/\fJ Tryz.prog 107=true:=by and_intros<;>kernel_rfl
@[simp] def arz:T5 109 (.slice 9) 1 ([.lit (.slice none 0 0)]) 24 (.list [])/\fJ Tryz.prog 109=true:=by and_intros<;>kernel_rfl
@[simp] def arA:T5 110 (.struct) 4 ([.d (.int .i64 0),.d (.str []),.d (.str []),.lit (.slice none 0 0)]) 64 (.agg ([.int .i64 0,.str [],.str [],.list []]))/\FF 110 0 0 3/\FF 110 1 1 9/\FF 110 2 2 9/\FF 110 3 3 109/\bG Tryz.prog 110=some [(0,1),(1,1),(2,1),(3,1)]:=by and_intros<;>kernel_rfl
@[simp] def arB:T5 111 (.struct) 4 ([.d (.int .i64 0),.d (.str []),.d (.str []),.lit (.slice none 0 0)]) 64 (.agg ([.int .i64 0,.str [],.str [],.list []]))/\FF 111 0 0 3/\FF 111 1 1 9/\FF 111 2 2 9/\FF 111 3 3 109/\bG Tryz.prog 111=some [(0,1),(1,1),(2,1),(3,1)]:=by and_intros<;>kernel_rfl
@[simp] def arC:T5 112 (.slice 114) 1 ([.lit (.slice none 0 0)]) 24 (.list [])/\fJ Tryz.prog 112=true:=by and_intros<;>kernel_rfl
@[simp] def arD:T5 113 (.struct) 6 ([.d (.int .i64 0),.d (.int .i64 0),.d (.str []),.d (.str []),.lit (.slice none 0 0),.d (.int .i64 0)]) 80 (.agg ([.int .i64 0,.int .i64 0,.str [],.str [],.list [],.int .i64 0]))/\FF 113 0 0 3/\FF 113 1 1 2/\FF 113 2 2 9/\FF 113 3 3 9/\FF 113 4 4 112/\FF 113 5 5 3/\bG Tryz.prog 113=some [(0,1),(1,1),(2,1),(3,1),(4,1),(5,1)]:=by and_intros<;>kernel_rfl
@[simp] def arE:T5 114 (.struct) 6 ([.d (.int .i64 0),.d (.int .i64 0),.d (.str []),.d (.str []),.lit (.slice none 0 0),.d (.int .i64 0)]) 80 (.agg ([.int .i64 0,.int .i64 0,.str [],.str [],.list [],.int .i64 0]))/\FF 114 0 0 3/\FF 114 1 1 2/\FF 114 2 2 9/\FF 114 3 3 9/\FF 114 4 4 112/\FF 114 5 5 3/\bG Tryz.prog 114=some [(0,1),(1,1),(2,1),(3,1),(4,1),(5,1)]:=by and_intros<;>kernel_rfl
@[simp] def arF:T5 115 (.slice 26) 1 ([.lit (.slice none 0 0)]) 24 (.list [])/\fJ Tryz.prog 115=true:=by and_intros<;>kernel_rfl
@[simp] def arG:T5 116 (.slice 23) 1 ([.lit (.slice none 0 0)]) 24 (.list [])/\fJ Tryz.prog 116=true:=by and_intros<;>kernel_rfl
@[simp] def arH:T5 117 (.struct) 19 ([.d (.int .i64 0),.d (.str []),.d (.int .i64 0),.d (.int .i64 0),.d (.str []),.d (.str []),.lit (.slice none 0 0),.d (.int .i64 0),.d (.int .i64 0),.d (.int .i64 0),.d (.str []),.d (.str []),.lit (.slice none 0 0),.d (.int .i64 0),.lit (.slice none 0 0),.lit (.slice none 0 0),.lit (.slice none 0 0),.lit (.slice none 0 0),.d (.int .i64 0)]) 288 (.agg ([.int .i64 0,.str [],.int .i64 0,.int .i64 0,.str [],.str [],.list [],.int .i64 0,.int .i64 0,.int .i64 0,.str [],.str [],.list [],.int .i64 0,.list [],.list [],.list [],.list [],.int .i64 0]))/\FF 117 0 0 3/\FF 117 1 1 9/\FF 117 2 2 114/\FF 117 3 8 114/\FF 117 4 14 112/\FF 117 5 15 115/\FF 117 6 16 109/\FF 117 7 17 116/\FF 117 8 18 3/\bG Tryz.prog 117=some [(0,1),(1,1),(2,6),(8,6),(14,1),(15,1),(16,1),(17,1),(18,1)]:=by and_intros<;>kernel_rfl
@[simp] def arI:T5 118 (.struct) 19 ([.d (.int .i64 0),.d (.str []),.d (.int .i64 0),.d (.int .i64 0),.d (.str []),.d (.str []),.lit (.slice none 0 0),.d (.int .i64 0),.d (.int .i64 0),.d (.int .i64 0),.d (.str []),.d (.str []),.lit (.slice none 0 0),.d (.int .i64 0),.lit (.slice none 0 0),.lit (.slice none 0 0),.lit (.slice none 0 0),.lit (.slice none 0 0),.d (.int .i64 0)]) 288 (.agg ([.int .i64 0,.str [],.int .i64 0,.int .i64 0,.str [],.str [],.list [],.int .i64 0,.int .i64 0,.int .i64 0,.str [],.str [],.list [],.int .i64 0,.list [],.list [],.list [],.list [],.int .i64 0]))/\FF 118 0 0 3/\FF 118 1 1 9/\FF 118 2 2 114/\FF 118 3 8 114/\FF 118 4 14 112/\FF 118 5 15 115/\FF 118 6 16 109/\FF 118 7 17 116/\FF 118 8 18 3/\bG Tryz.prog 118=some [(0,1),(1,1),(2,6),(8,6),(14,1),(15,1),(16,1),(17,1),(18,1)]:=by and_intros<;>kernel_rfl
@[simp] def arJ:T2 122 (.func) 1:=by and_intros<;>kernel_rfl
@[simp] def arK:T2 125 (.func) 1:=by and_intros<;>kernel_rfl
@[simp] def arL:T5 127 (.slice 4) 1 ([.lit (.slice none 0 0)]) 24 (.list [])/\fJ Tryz.prog 127=true:=by and_intros<;>kernel_rfl
@[simp] def arM:T5 128 (.struct) 5 ([.lit (.slice none 0 0),.d (.int .i64 0),.d (.int .i64 0),.lit (.slice none 0 0),.lit (.slice none 0 0)]) 88 (.agg ([.list [],.int .i64 0,.int .i64 0,.list [],.list []]))/\FF 128 0 0 34/\FF 128 1 3 127/\FF 128 2 4 127/\bG Tryz.prog 128=some [(0,3),(3,1),(4,1)]:=by and_intros<;>kernel_rfl
@[simp] def arN:T2 133 (.func) 1:=by and_intros<;>kernel_rfl
@[simp] def arO:T6 141 3 [.str [],.int .i64 0,.bool false] 32/\FF 141 0 0 9/\FF 141 1 1 3/\FF 141 2 2 4/\bG Tryz.prog 141=some [(0,1),(1,1),(2,1)]/\cN Tryz.prog 141=some [.str,.int .i64,.bool]:=by and_intros<;>kernel_rfl
@[simp] def arP:T6 142 3 [.str [],.int .i64 0,.bool false] 32/\FF 142 0 0 9/\FF 142 1 1 3/\FF 142 2 2 4/\bG Tryz.prog 142=some [(0,1),(1,1),(2,1)]/\cN Tryz.prog 142=some [.str,.int .i64,.bool]:=by and_intros<;>kernel_rfl
@[simp] def arQ:T5 144 (.slice 49) 1 ([.lit (.slice none 0 0)]) 24 (.list [])/\fJ Tryz.prog 144=true:=by and_intros<;>kernel_rfl
@[simp] def arR:T6 147 6 [.int .i64 0,.int .i64 0,.str [],.int .i64 0,.int .i64 0,.int .i64 0] 56/\FF 147 0 0 35/\FF 147 1 1 49/\bG Tryz.prog 147=some [(0,1),(1,5)]/\cN Tryz.prog 147=some [.int .i64,.int .i64,.str,.int .i64,.int .i64,.int .i64]:=by and_intros<;>kernel_rfl
@[simp] def arS:T6 148 6 [.int .i64 0,.int .i64 0,.str [],.int .i64 0,.int .i64 0,.int .i64 0] 56/\FF 148 0 0 35/\FF 148 1 1 49/\bG Tryz.prog 148=some [(0,1),(1,5)]/\cN Tryz.prog 148=some [.int .i64,.int .i64,.str,.int .i64,.int .i64,.int .i64]:=by and_intros<;>kernel_rfl
@[simp] def arT:T2 150 (.ptr 152) 1:=by and_intros<;>kernel_rfl
@[simp] def arU:T5 151 (.struct) 4 ([.lit (.slice none 0 0),.d (.int .i64 0),.d (.int .i64 0),.lit (.slice none 0 0)]) 64 (.agg ([.list [],.int .i64 0,.int .i64 0,.list []]))/\FF 151 0 0 144/\FF 151 1 1 3/\FF 151 2 2 3/\FF 151 3 3 22/\bG Tryz.prog 151=some [(0,1),(1,1),(2,1),(3,1)]:=by and_intros<;>kernel_rfl
@[simp] def arV:T5 152 (.struct) 4 ([.lit (.slice none 0 0),.d (.int .i64 0),.d (.int .i64 0),.lit (.slice none 0 0)]) 64 (.agg ([.list [],.int .i64 0,.int .i64 0,.list []]))/\FF 152 0 0 144/\FF 152 1 1 3/\FF 152 2 2 3/\FF 152 3 3 22/\bG Tryz.prog 152=some [(0,1),(1,1),(2,1),(3,1)]:=by and_intros<;>kernel_rfl
@[simp] def arW:T2 160 (.ptr 3) 1:=by and_intros<;>kernel_rfl
@[simp] def arX:T5 165 (.slice 112) 1 ([.lit (.slice none 0 0)]) 24 (.list [])/\fJ Tryz.prog 165=true:=by and_intros<;>kernel_rfl
@[simp] def arY:T6 180 5 [.int .i64 0,.str [],.str [],.str [],.int .i64 0] 64/\FF 180 0 0 3/\FF 180 1 1 9/\FF 180 2 2 9/\FF 180 3 3 9/\FF 180 4 4 3/\bG Tryz.prog 180=some [(0,1),(1,1),(2,1),(3,1),(4,1)]/\cN Tryz.prog 180=some [.int .i64,.str,.str,.str,.int .i64]:=by and_intros<;>kernel_rfl
@[simp] def arZ:T6 181 5 [.int .i64 0,.str [],.str [],.str [],.int .i64 0] 64/\FF 181 0 0 3/\FF 181 1 1 9/\FF 181 2 2 9/\FF 181 3 3 9/\FF 181 4 4 3/\bG Tryz.prog 181=some [(0,1),(1,1),(2,1),(3,1),(4,1)]/\cN Tryz.prog 181=some [.int .i64,.str,.str,.str,.int .i64]:=by and_intros<;>kernel_rfl
@[simp] def ar0:T2 194 (.ptr 196) 1:=by and_intros<;>kernel_rfl
@[simp] def ar1:T6 195 4 [.str [],.int .i64 0,.int .i64 0,.int .i64 0] 40/\FF 195 0 0 9/\FF 195 1 1 3/\FF 195 2 2 3/\FF 195 3 3 3/\bG Tryz.prog 195=some [(0,1),(1,1),(2,1),(3,1)]/\cN Tryz.prog 195=some [.str,.int .i64,.int .i64,.int .i64]:=by and_intros<;>kernel_rfl
@[simp] def ar2:T6 196 4 [.str [],.int .i64 0,.int .i64 0,.int .i64 0] 40/\FF 196 0 0 9/\FF 196 1 1 3/\FF 196 2 2 3/\FF 196 3 3 3/\bG Tryz.prog 196=some [(0,1),(1,1),(2,1),(3,1)]/\cN Tryz.prog 196=some [.str,.int .i64,.int .i64,.int .i64]:=by and_intros<;>kernel_rfl
@[simp] def ar3:T5 203 (.slice 32) 1 ([.lit (.slice none 0 0)]) 24 (.list [])/\fJ Tryz.prog 203=true:=by and_intros<;>kernel_rfl
@[simp] def ar4:T5 211 (.arr 3 3) 3 ([.d (.int .i64 0),.d (.int .i64 0),.d (.int .i64 0)]) 24 (.agg ([.int .i64 0,.int .i64 0,.int .i64 0]))/\bG Tryz.prog 211=none:=by and_intros<;>kernel_rfl
@[simp] def ar5:T5 234 (.slice 181) 1 ([.lit (.slice none 0 0)]) 24 (.list [])/\fJ Tryz.prog 234=true:=by and_intros<;>kernel_rfl
@[simp] def ar6:T2 237 (.func) 1:=by and_intros<;>kernel_rfl
@[simp] def ar7:T2 246 (.func) 1:=by and_intros<;>kernel_rfl
@[simp] def ar8:T2 255 (.func) 1:=by and_intros<;>kernel_rfl
@[simp] def ar9:T2 256 (.func) 1:=by and_intros<;>kernel_rfl
@[simp] def asa:T5 257 (.arr 6 4) 6 ([.d (.bool false),.d (.bool false),.d (.bool false),.d (.bool false),.d (.bool false),.d (.bool false)]) 6 (.agg ([.bool false,.bool false,.bool false,.bool false,.bool false,.bool false]))/\bG Tryz.prog 257=none:=by and_intros<;>kernel_rfl
@[simp] def asb:T2 263 (.func) 1:=by and_intros<;>kernel_rfl
@[simp] def asc:T5 266 (.arr 256 5) 256 (List.replicate 256 (.d (.int .u8 0))) 256 (.agg (List.replicate 256 (.int .u8 0)))/\bG Tryz.prog 266=none:=by and_intros<;>kernel_rfl
@[simp] def asd:T2 268 (.func) 1:=by and_intros<;>kernel_rfl
@[simp] def ase:T6 270 2 [.str [],.int .i64 0] 24/\FF 270 0 0 9/\FF 270 1 1 2/\bG Tryz.prog 270=some [(0,1),(1,1)]/\cN Tryz.prog 270=some [.str,.int .i64]:=by and_intros<;>kernel_rfl
@[simp] def asf:T5 271 (.slice 270) 1 ([.lit (.slice none 0 0)]) 24 (.list [])/\fJ Tryz.prog 271=true:=by and_intros<;>kernel_rfl
@[simp] def ash:T6 273 9 [.int .i64 0,.str [],.int .i64 0,.int .i64 0,.int .i64 0,.int .i64 0,.bool false,.int .i64 0,.int .i64 0] 80/\FF 273 0 0 49/\FF 273 1 5 3/\FF 273 2 6 4/\FF 273 3 7 2/\FF 273 4 8 2/\bG Tryz.prog 273=some [(0,5),(5,1),(6,1),(7,1),(8,1)]/\cN Tryz.prog 273=some [.int .i64,.str,.int .i64,.int .i64,.int .i64,.int .i64,.bool,.int .i64,.int .i64]:=by and_intros<;>kernel_rfl
@[simp] def asi:T6 274 9 [.int .i64 0,.str [],.int .i64 0,.int .i64 0,.int .i64 0,.int .i64 0,.bool false,.int .i64 0,.int .i64 0] 80/\FF 274 0 0 49/\FF 274 1 5 3/\FF 274 2 6 4/\FF 274 3 7 2/\FF 274 4 8 2/\bG Tryz.prog 274=some [(0,5),(5,1),(6,1),(7,1),(8,1)]/\cN Tryz.prog 274=some [.int .i64,.str,.int .i64,.int .i64,.int .i64,.int .i64,.bool,.int .i64,.int .i64]:=by and_intros<;>kernel_rfl
@[simp] def asj:TI 279 .u64 8:=by and_intros<;>kernel_rfl
@[simp] def asl:T5 280 (.arr 4 279) 4 ([.d (.int .u64 0),.d (.int .u64 0),.d (.int .u64 0),.d (.int .u64 0)]) 32 (.agg ([.int .u64 0,.int .u64 0,.int .u64 0,.int .u64 0]))/\bG Tryz.prog 280=none:=by and_intros<;>kernel_rfl
@[simp] def asm:T6 281 5 [.int .u64 0,.int .u64 0,.int .u64 0,.int .u64 0,.bool false] 40/\FF 281 0 0 280/\FF 281 1 4 4/\bG Tryz.prog 281=some [(0,4),(4,1)]:=by and_intros<;>kernel_rfl
@[simp] def asn:T6 282 5 [.int .u64 0,.int .u64 0,.int .u64 0,.int .u64 0,.bool false] 40/\FF 282 0 0 280/\FF 282 1 4 4/\bG Tryz.prog 282=some [(0,4),(4,1)]:=by and_intros<;>kernel_rfl
@[simp] def aso:T5 296 (.slice 298) 1 ([.lit (.slice none 0 0)]) 24 (.list [])/\fJ Tryz.prog 296=true:=by and_intros<;>kernel_rfl
@[simp] def asp:T6 297 2 [.int .i64 0,.int .i64 0] 16/\FF 297 0 0 3/\FF 297 1 1 3/\bG Tryz.prog 297=some [(0,1),(1,1)]/\cN Tryz.prog 297=some [.int .i64,.int .i64]:=by and_intros<;>kernel_rfl
@[simp] def asq:T6 298 2 [.int .i64 0,.int .i64 0] 16/\FF 298 0 0 3/\FF 298 1 1 3/\bG Tryz.prog 298=some [(0,1),(1,1)]/\cN Tryz.prog 298=some [.int .i64,.int .i64]:=by and_intros<;>kernel_rfl
@[simp] def asr:TI 299 .u32 4:=by and_intros<;>kernel_rfl
@[simp] def ass:T2 301 (.ptr 314) 1:=by and_intros<;>kernel_rfl
@[simp] def ast:TI 302 .u64 8:=by and_intros<;>kernel_rfl
@[simp] def asu:T5 311 (.slice 317) 1 ([.lit (.slice none 0 0)]) 24 (.list [])/\fJ Tryz.prog 311=true:=by and_intros<;>kernel_rfl
@[simp] def asv:T5 312 (.slice 320) 1 ([.lit (.slice none 0 0)]) 24 (.list [])/\fJ Tryz.prog 312=true:=by and_intros<;>kernel_rfl
@[simp] def asw:T5 313 (.struct) 3 ([.lit (.slice none 0 0),.lit (.slice none 0 0),.d (.int .i64 0)]) 56 (.agg ([.list [],.list [],.int .i64 0]))/\FF 313 0 0 311/\FF 313 1 1 312/\FF 313 2 2 3/\bG Tryz.prog 313=some [(0,1),(1,1),(2,1)]:=by and_intros<;>kernel_rfl
@[simp] def asx:T5 314 (.struct) 3 ([.lit (.slice none 0 0),.lit (.slice none 0 0),.d (.int .i64 0)]) 56 (.agg ([.list [],.list [],.int .i64 0]))/\FF 314 0 0 311/\FF 314 1 1 312/\FF 314 2 2 3/\bG Tryz.prog 314=some [(0,1),(1,1),(2,1)]:=by and_intros<;>kernel_rfl
@[simp] def asy:TI 315 .u16 2:=by and_intros<;>kernel_rfl
@[simp] def asz:T6 316 3 [.int .u16 0,.int .u16 0,.int .u16 0] 6/\FF 316 0 0 315/\FF 316 1 1 315/\FF 316 2 2 315/\bG Tryz.prog 316=some [(0,1),(1,1),(2,1)]/\cN Tryz.prog 316=some [.int .u16,.int .u16,.int .u16]:=by and_intros<;>kernel_rfl
@[simp] def asA:T6 317 3 [.int .u16 0,.int .u16 0,.int .u16 0] 6/\FF 317 0 0 315/\FF 317 1 1 315/\FF 317 2 2 315/\bG Tryz.prog 317=some [(0,1),(1,1),(2,1)]/\cN Tryz.prog 317=some [.int .u16,.int .u16,.int .u16]:=by and_intros<;>kernel_rfl
@[simp] def asB:T6 319 3 [.int .u32 0,.int .u32 0,.int .u32 0] 12/\FF 319 0 0 299/\FF 319 1 1 299/\FF 319 2 2 299/\bG Tryz.prog 319=some [(0,1),(1,1),(2,1)]/\cN Tryz.prog 319=some [.int .u32,.int .u32,.int .u32]:=by and_intros<;>kernel_rfl
@[simp] def asC:T6 320 3 [.int .u32 0,.int .u32 0,.int .u32 0] 12/\FF 320 0 0 299/\FF 320 1 1 299/\FF 320 2 2 299/\bG Tryz.prog 320=some [(0,1),(1,1),(2,1)]/\cN Tryz.prog 320=some [.int .u32,.int .u32,.int .u32]:=by and_intros<;>kernel_rfl
@[simp] def asD:T2 328 (.ptr 317) 1:=by and_intros<;>kernel_rfl
@[simp] def asF:T2 329 (.ptr 320) 1:=by and_intros<;>kernel_rfl
@[simp] def asG:T5 330 (.slice 109) 1 ([.lit (.slice none 0 0)]) 24 (.list [])/\fJ Tryz.prog 330=true:=by and_intros<;>kernel_rfl
@[simp] def asH:T3 333 (.struct) 4 ([.lit (.pointer none),.lit (.pointer none),.lit (.pointer none),.d (.str [])])/\FF 333 0 0 17/\FF 333 1 1 17/\FF 333 2 2 17/\FF 333 3 3 9/\bG Tryz.prog 333=some [(0,1),(1,1),(2,1),(3,1)]:=by and_intros<;>kernel_rfl
@[simp] def asI:T3 334 (.struct) 4 ([.lit (.pointer none),.lit (.pointer none),.lit (.pointer none),.d (.str [])])/\FF 334 0 0 17/\FF 334 1 1 17/\FF 334 2 2 17/\FF 334 3 3 9/\bG Tryz.prog 334=some [(0,1),(1,1),(2,1),(3,1)]:=by and_intros<;>kernel_rfl
@[simp] def asJ:T5 335 (.arr 0 16) 0 ([]) 0 (.agg ([]))/\bG Tryz.prog 335=none:=by and_intros<;>kernel_rfl
@[simp] def asK:T6 336 0 [] 0/\bG Tryz.prog 336=some [(0,0)]:=by and_intros<;>kernel_rfl
@[simp] def asL:T6 337 0 [] 0/\bG Tryz.prog 337=some [(0,0)]:=by and_intros<;>kernel_rfl
@[simp] def asM:TI 338 .u8 1:=by and_intros<;>kernel_rfl
@[simp] def asN:TI 339 .u8 1:=by and_intros<;>kernel_rfl
@[simp] def asO:T2 340 (.func) 1:=by and_intros<;>kernel_rfl
@[simp] def asP:T2 341 (.ptr 5) 1:=by and_intros<;>kernel_rfl
@[simp] def asQ:TI 342 .i32 4:=by and_intros<;>kernel_rfl
@[simp] def asR:TI 343 .i32 4:=by and_intros<;>kernel_rfl
@[simp] def asS:T3 344 (.struct) 11 ([.d (.int .u64 0),.d (.int .u64 0),.d (.int .u32 0),.d (.int .u8 0),.d (.int .u8 0),.d (.int .u8 0),.d (.int .u8 0),.lit .nilFunc,.lit (.pointer none),.d (.int .i32 0),.d (.int .i32 0)])/\FF 344 0 0 12/\FF 344 1 1 12/\FF 344 2 2 299/\FF 344 3 3 338/\FF 344 4 4 5/\FF 344 5 5 5/\FF 344 6 6 339/\FF 344 7 7 340/\FF 344 8 8 341/\FF 344 9 9 342/\FF 344 10 10 343/\bG Tryz.prog 344=some [(0,1),(1,1),(2,1),(3,1),(4,1),(5,1),(6,1),(7,1),(8,1),(9,1),(10,1)]:=by and_intros<;>kernel_rfl
@[simp] def asT:T3 345 (.struct) 11 ([.d (.int .u64 0),.d (.int .u64 0),.d (.int .u32 0),.d (.int .u8 0),.d (.int .u8 0),.d (.int .u8 0),.d (.int .u8 0),.lit .nilFunc,.lit (.pointer none),.d (.int .i32 0),.d (.int .i32 0)])/\FF 345 0 0 12/\FF 345 1 1 12/\FF 345 2 2 299/\FF 345 3 3 338/\FF 345 4 4 5/\FF 345 5 5 5/\FF 345 6 6 339/\FF 345 7 7 340/\FF 345 8 8 341/\FF 345 9 9 342/\FF 345 10 10 343/\bG Tryz.prog 345=some [(0,1),(1,1),(2,1),(3,1),(4,1),(5,1),(6,1),(7,1),(8,1),(9,1),(10,1)]:=by and_intros<;>kernel_rfl
structure Tb where
 k:Nat->List Nat
 g:Nat->List Gh
 m:List Nat
 f:gu
 l:Nat->List (Nat×Nat)
 o:Nat->List (List Nat)
def rr:List Nat:=List.range 99
abbrev zk:Nat->List Nat:=λ_=>[]
abbrev za:Nat->List Nat:=λ_=>[0,0]
abbrev zg:Nat->List Gh:=λ_=>[]
abbrev zf:gu:=⟨[],false,[0],[],false⟩
abbrev zo:Nat->List (List Nat):=λ_=>[]
abbrev zl:Nat->List (Nat×Nat):=λ_=>[]
abbrev zt:Tb:=⟨zk,zg,[],zf,zl,zo⟩
abbrev fs(l:List Nat):gu:=⟨[],false,l,[],false⟩
@[simp] def akr:Nat->List Nat
 |0=>[1]
 |1=>[1,14]
 |2|8|10|12|14|15=>[2]
 |3|5=>[1,3]
 |4=>[1,3,19]
 |6=>[1,3,4]
 |7=>[1,3,4,40]
 |9=>[1,3,4,54]
 |11=>[1,3,4,93]
 |13=>[1,3,125]
 |_=>[]
@[simp] def aks:Nat->List Nat
 |0=>[1,2]
 |1=>[1,2,3]
 |2|4|8=>[1,2,3,4]
 |3=>[1,2,3,4,11]
 |5=>[1,2,3,4,6]
 |6=>[1,2,3,4,28]
 |7|10|11=>[2]
 |9=>[1,2,3,4,45]
 |_=>[]
@[simp] def od9:Nat->List (List Nat)
 |5=>[rr,rr,rr,[4,5,6,7,8,9,14],rr,rr,rr,rr,rr,rr,[14],rr,rr,rr,[0,1,2,3,4,5,6,7,8,9,10,11,12,13],[13],rr]
 |_=>[]
@[simp] def aot:Nat->List (List Nat)
 |8=>[rr,rr,rr,rr,rr,rr,rr,rr,rr,rr,[],rr]
 |_=>[]
@[simp] def aou:Nat->List Gh
 |2=>[.iR 700 3 701 5,.ur 700 7 702,.iR 700 8 703 1]
 |_=>[]
@[simp] def afX:Nat->List Nat
 |0=>[1,2]
 |1=>[1,2,4]
 |2=>[1,2,4,5]
 |3|9=>[2,4,5,6]
 |4|6|8=>[2,4,5,6,7]
 |5=>[2,4,5,6,7,23]
 |7=>[2,4,5,6,7,39]
 |10=>[2,4,5,6,59]
 |11|12=>[2,3]
 |_=>[]
@[simp] def afY:Nat->List Nat
 |0=>[2,3]
 |1=>[2,3,26]
 |2|7|8=>[4]
 |3|5=>[2,3,5]
 |4=>[2,3,5,31]
 |6=>[2,3,5,44]
 |_=>[]
@[simp] def aov:Nat->List (List Nat)
 |6=>[rr,rr,rr,rr,rr,rr,rr,rr,rr,rr,rr]
 |_=>[]
@[simp] def afZ:Nat->List Nat
 |0=>[0]
 |1=>[0,17]
 |2|9|10=>[2]
 |3|5=>[0,3]
 |4=>[0,3,21]
 |6=>[0,3,4]
 |7=>[0,3,4,5]
 |8=>[0,3,58]
 |_=>[]
@[simp] def af0:Nat->List Nat
 |0=>[0]
 |1=>[0,3]
 |2|4=>[0,3,4]
 |3=>[0,3,4,9]
 |5=>[0,3,4,18]
 |6|7=>[2]
 |_=>[]
@[simp] def af1:Nat->List Nat
 |0=>[0]
 |1|3=>[0,3]
 |2=>[0,3,20]
 |4=>[0,3,4]
 |5=>[0,3,4,5,6,7]
 |6=>[0,3,4,6,7,59]
 |7|9|11|26|31|36|41|46|47=>[2]
 |8=>[0,3,4,7,89]
 |10=>[0,3,4,118]
 |12|15|17|19|22|24=>[0,3,4,8,9,10,11,12]
 |13=>[0,3,4,8,9,10,11,12,120]
 |14=>[0,3,4,8,9,10,11,12,120,121]
 |16=>[0,3,4,8,9,10,11,12,120,131]
 |18=>[0,3,4,8,9,10,11,12,120,139]
 |20|21=>[0,3,4,8,9,10,11,12,120,141]
 |23=>[0,3,4,8,9,10,11,12,144]
 |25=>[0,3,4,186]
 |27|29=>[0,3,4,13]
 |28=>[0,3,4,13,191]
 |30=>[0,3,4,13,200]
 |32|34=>[0,3,4,14]
 |33=>[0,3,4,14,205]
 |35=>[0,3,4,14,224]
 |37|39=>[0,3,4,14,15]
 |38=>[0,3,4,14,15,232]
 |40=>[0,3,4,14,15,243]
 |42|44=>[0,3,4,16]
 |43=>[0,3,4,16,248]
 |45=>[0,3,4,16,257]
 |_=>[]
@[simp] def aow:Nat->List (List Nat)
 |15=>[rr,rr,rr,rr,rr,rr,rr,rr,rr,rr,rr]
 |17=>[rr,rr,rr,rr,rr,rr,rr,rr,rr]
 |24=>[rr,rr,rr,rr,rr,rr,rr,rr]
 |_=>[]
@[simp] def af2:Nat->List Nat
 |0=>[0,1,4]
 |1|3=>[0,1,4,6]
 |2=>[0,1,4,6,10]
 |4=>[0,1,4,6,19]
 |5|6=>[4,5]
 |_=>[]
@[simp] def af3:Nat->List Nat
 |0=>[0,1,2,6]
 |1|3=>[0,1,2,6,7]
 |2=>[0,1,2,6,7,12]
 |4=>[0,1,2,6,7,8]
 |5=>[0,1,2,6,7,8,24]
 |6|7=>[6]
 |_=>[]
@[simp] def af4:Nat->List Nat
 |0=>[1,2]
 |1=>[1,2,3]
 |2|10|11=>[2,3,8,9,10]
 |3=>[2,3,8,9,10,11]
 |4|5|8=>[2,3,5,8,9,10]
 |6|7=>[2,3,5,6,8,9,10]
 |9=>[2,3,5,8,9,10,40]
 |12=>[2]
 |_=>[]
@[simp] def aoy:Nat->List Gh
 |1=>[.iR 250 0 251 1,.iR 250 2 252 1]
 |_=>[]
@[simp] def af5:Nat->List Nat
 |0|3|4=>[0,6,7,8]
 |1=>[0,6,7,8,9]
 |2=>[0,5,6,7,8]
 |_=>[]
@[simp] def af6:Nat->List Nat
 |0|3|4=>[0,6,7,8]
 |1=>[0,6,7,8,9]
 |2=>[0,5,6,7,8]
 |_=>[]
@[simp] def aoz:Nat->List (List Nat)
 |1=>[rr,rr,rr,rr,rr,rr,[0,1,2,3,4],[0],rr,rr,[]]
 |3=>[rr,rr,rr,rr,rr,rr,rr,rr,rr,rr,rr,rr,[]]
 |_=>[]
@[simp] def af7:Nat->List Nat
 |0=>[1,2]
 |1=>[1,2,3]
 |2|4=>[1,2,3,4]
 |3=>[1,2,3,4,12]
 |5|6=>[1,2,3,4,5]
 |7|9|13=>[1,2,3,4,5,6]
 |8=>[1,2,3,4,5,6,31]
 |10|12=>[1,2,3,4,5,6,7]
 |11=>[1,2,3,4,5,6,7,41]
 |14=>[2,3]
 |15=>[2]
 |_=>[]
@[simp] def aoA:Nat->List Gh
 |1=>[.iR 250 0 251 1,.iR 250 2 252 1]
 |_=>[]
@[simp] def af8:Nat->List Nat
 |0=>[0]
 |1=>[0,14]
 |2|20|21=>[2]
 |3=>[0,3]
 |4|6=>[0,3,4]
 |5=>[0,3,4,19]
 |7=>[0,3,4,28]
 |8=>[3,4,5]
 |9|11|19=>[3,4,5,6]
 |10=>[3,4,5,6,36]
 |12=>[3,4,5,6,7]
 |13|15|17=>[3,4,5,6,7,8]
 |14=>[3,4,5,6,7,8,52]
 |16=>[3,4,5,6,7,8,55]
 |18=>[3,4,5,6,8]
 |_=>[]
@[simp] def aoB:Nat->List (List Nat)
 |3=>[rr,rr,rr,[1,2],[2],[]]
 |_=>[]
@[simp] def aoC:Nat->List Gh
 |5=>[.iR 1150 3 1151 8]
 |_=>[]
@[simp] def af9:Nat->List Nat
 |0=>[0,1]
 |1=>[0,1,5]
 |2|4|5=>[0,1,5,6]
 |3=>[0,1,5,6,10]
 |6=>[4]
 |_=>[]
@[simp] def aoD:Nat->List (List Nat)
 |5=>[rr,rr,[0,3,4,5,6,7],rr,rr,rr,rr,rr,[0],[],[],rr]
 |_=>[]
@[simp] def aoE:Nat->List Gh
 |5=>[.xZ 1251 350]
 |2000001=>[.freeze 350]
 |_=>[]
@[simp] def aga:Nat->List Nat
 |0=>[0]
 |1=>[0,3]
 |2|4|18=>[0,3,4]
 |3=>[0,3,4,11]
 |5|6|7|8|13=>[0,3,4,5]
 |9|11|12=>[0,3,4,5,6]
 |10=>[0,3,4,5,6,34]
 |14|16|17=>[0,3,4,5,7]
 |15=>[0,3,4,5,7,59]
 |19=>[2]
 |_=>[]
@[simp] def aoF:Nat->List (List Nat)
 |12=>[rr,rr,rr,rr,rr,rr,rr,rr,rr,rr,[0,1],[0,1],[],rr,[]]
 |17=>[rr,rr,rr,rr,rr,rr,rr,rr,rr,rr,[0,1],[0,1],[],rr,[]]
 |_=>[]
@[simp] def aoG:Nat->List Gh
 |8=>[.iR 350 14 352 6]
 |1000002=>[.freeze 352]
 |13=>[.iR 350 17 353 1]
 |1000004=>[.freeze 353]
 |_=>[]
@[simp] def agb:Nat->List Nat
 |0=>[0,1]
 |1=>[0,1,6,7]
 |2|4|5=>[0,1,6,7,8]
 |3=>[0,1,6,7,8,26]
 |6|14=>[0,1,6,7,8,9]
 |7|12|13=>[0,1,6,7,8,9,42,43,44]
 |8=>[0,1,6,7,8,9,42,43,44,45]
 |9=>[0,1,6,7,8,9,11,42,43,44]
 |10=>[0,1,6,7,8,9,12,13,42,43,44]
 |11=>[0,1,6,7,8,9,13,42,43,44]
 |15|17|18=>[0,1,6,7,8,9,14]
 |16=>[0,1,6,7,8,9,14,88]
 |19|21|24=>[0,1,6,7,8,9,15]
 |20=>[0,1,6,7,8,9,15,111]
 |22=>[0,1,6,7,8,9,15,16,17]
 |23=>[0,1,6,7,8,9,15,17]
 |25=>[4,5]
 |_=>[]
@[simp] def agc:Nat->List Nat
 |0=>[0]
 |1|6=>[0,5,6,7]
 |2=>[0,5,6,7,8]
 |3=>[0,4,5,6,7]
 |4=>[0,5,6,7,13]
 |5|7=>[2]
 |_=>[]
@[simp] def agd:Nat->List Nat
 |1=>[0]
 |_=>[]
@[simp] def age:Nat->List Nat
 |0=>[0]
 |1|3=>[0,3]
 |2=>[0,3,11]
 |4=>[0,3,4]
 |5|13|15|17|19|21=>[0,3,4,5,6,7]
 |6|7|8|9|10=>[0,3,4,5,6,7,18]
 |11|23|24=>[2]
 |12=>[0,3,4,5,6,7,54]
 |14=>[0,3,4,5,6,7,58]
 |16=>[0,3,4,5,6,7,62]
 |18=>[0,3,4,5,6,7,66]
 |20=>[0,3,4,5,6,7,75]
 |22=>[0,3,125]
 |_=>[]
@[simp] def agf:Nat->List Nat
 |0=>[0,2,4,6]
 |1=>[0,2,4,6,25]
 |2=>[0,2,4,6,25,26]
 |3=>[0,4,6,7,8]
 |4=>[0,4,6,7,37]
 |5|7|10|13|15|23|26|30|36|40|42|44|50|51|55|56|60|61|64|66|67=>[6]
 |6=>[0,4,6,44]
 |8=>[0,4,6,9,10]
 |9=>[0,4,6,9,10,58]
 |11=>[4,6,9,10,11]
 |12=>[4,6,9,10,11,69]
 |14=>[4,6,73]
 |16=>[0,2,4,6,25,77]
 |17|19=>[0,2,4,6,12]
 |18=>[0,2,4,6,12,83]
 |20=>[0,2,4,6,12,90]
 |21=>[0,2,4,6,12,13]
 |22=>[0,2,4,6,12,13,100]
 |24=>[0,2,4,6,12,14]
 |25=>[0,2,4,6,12,14,112]
 |27=>[0,2,4,6,25,114]
 |28=>[0,2,4,6,15]
 |29=>[0,2,4,6,15,122]
 |31|33=>[0,2,4,6,16]
 |32=>[0,2,4,6,16,128]
 |34=>[0,2,4,6,16,17]
 |35=>[0,2,4,6,16,17,141]
 |37=>[0,2,4,6,25,143]
 |38=>[0,4,6,18,19]
 |39=>[0,4,6,18,153]
 |41=>[0,4,6,18,159]
 |43=>[0,4,6,169]
 |45|47=>[0,4,6,20]
 |46=>[0,4,6,20,177]
 |48=>[0,4,6,20,21]
 |49=>[0,4,6,20,21,189]
 |52=>[0,2,4,6,25,197]
 |53=>[0,4,6,22]
 |54=>[0,4,6,22,205]
 |57=>[0,2,4,6,25,213]
 |58=>[0,4,6,23]
 |59=>[0,4,6,23,223]
 |62=>[0,2,4,6,25,229]
 |63=>[4,6,232]
 |65=>[0,4,6,236]
 |_=>[]
@[simp] def agh:Nat->List Nat
 |0|1=>[2,3]
 |2=>[2,3,8]
 |3=>[2,3,8,9]
 |5=>[2,3,8,14]
 |7=>[2,3,8,24]
 |9=>[2,3,8,29]
 |11|12=>[2,3,8,34]
 |14=>[2,3,8,40]
 |15=>[2,4]
 |17=>[2,3,8,65]
 |19=>[2,3,78]
 |_=>[]
@[simp] def aoH:Nat->List (List Nat)
 |16=>[rr,rr,rr,rr,rr,rr,rr,rr,rr,rr,rr,rr,rr,[0,1,2,3,4,5,6,7,8,9,10,11],[0,1,2,3,4,5,6,7,8,9,10,11],[0,1,2,3,4],rr,[]]
 |18=>[rr,rr,rr,rr,rr,rr,[0,1,2,3,4],[0,1,2,3,4],[0],rr,rr,[]]
 |_=>[]
@[simp] def aoI:Nat->List Gh
 |15=>[.eY 2 101]
 |16=>[.cls 2 101]
 |_=>[]
@[simp] def aoJ:Nat->List (Nat×Nat)
 |16=>[(0,7),(2,0)]
 |18=>[(0,8)]
 |_=>[]
@[simp] def agi:Nat->List Nat
 |0=>[0]
 |1=>[0,3]
 |2|13|14=>[3,9,10,11]
 |3=>[3,9,10,11,12]
 |4|5|12=>[3,5,9,10,11]
 |6=>[3,5,6,9,10,11]
 |7|10|11=>[3,5,6,9,10,11,28,29,30]
 |8=>[3,5,6,9,10,11,28,29,30,31]
 |9=>[3,5,6,8,9,10,11,28,29,30]
 |15=>[2]
 |_=>[]
@[simp] def aoK:Nat->List (List Nat)
 |5=>[rr,rr,[3,4,6,7],rr,rr,[6,7,9],rr,rr,[9],rr,[],rr,[],rr,[]]
 |_=>[]
@[simp] def aoL:Nat->List Gh
 |1000002=>[.freeze 400]
 |_=>[]
@[simp] def aoM:Nat->List (List Nat)
 |0=>[rr,rr,rr,rr,rr,rr,[0,1,2,3,4],rr,rr,[]]
 |_=>[]
@[simp] def aoN:Nat->List (Nat×Nat)
 |0=>[(0,3)]
 |_=>[]
@[simp] def agj:Nat->List Nat
 |0=>[0]
 |1=>[3,4]
 |2=>[3,12]
 |3|9=>[2]
 |4=>[3,5]
 |5|7|8=>[5,21,22]
 |6=>[5,21,22,23]
 |_=>[]
@[simp] def aoO:Nat->List (List Nat)
 |4=>[rr,rr,[3,4],rr,rr,[],[],rr]
 |_=>[]
@[simp] def agk:Nat->List Nat
 |0=>[0,4]
 |1=>[0,4,13]
 |2|8|10|13=>[2,3,4]
 |3=>[4,5]
 |4|15=>[4,5,6]
 |5=>[4,5,6,7]
 |6=>[4,5,6,7,8]
 |7=>[4,5,6,8,29]
 |9=>[4,5,6,8,33]
 |11=>[4,5,6,8,9,10]
 |12=>[4,5,6,8,9,10,50]
 |14=>[4,5,6,9]
 |_=>[]
@[simp] def aoP:Nat->List (List Nat)
 |6=>[rr,rr,rr,rr,rr,rr,rr,rr,rr,[0,1,2,3,4,5,6,7,8],[]]
 |8=>[rr,[0],rr,[]]
 |11=>[rr,[2,7],rr,[7],rr,rr,rr,[0,1,2,3,4,5,6],[6],rr]
 |13=>[rr,rr,[0,1],rr,[]]
 |_=>[]
@[simp] def aoQ:Nat->List (List Nat)
 |5=>[rr,rr,rr,rr,rr,[1,2,3,4],[3,4],[]]
 |_=>[]
@[simp] def agl:Nat->List Nat
 |0=>[0]
 |1=>[0,3]
 |2|4|5=>[0,3,4]
 |3=>[0,3,4,8]
 |6=>[2]
 |_=>[]
@[simp] def agm:Nat->List Nat
 |0=>[0,3]
 |1|4=>[0,3,5,6]
 |2=>[0,3,5,6,44]
 |3=>[0,3,5,6,44,45]
 |5=>[0,3,5,6,62]
 |6|8|17|35|45|50|54|56|58|65=>[4]
 |7=>[0,3,5,6,8]
 |9=>[0,3,5,6,44,93]
 |10=>[0,3,9,10]
 |11|13|15|16=>[0,3,9,10,11]
 |12=>[0,3,9,10,11,99]
 |14=>[0,3,9,10,11,106]
 |18=>[0,3,5,6,44,130]
 |19|20=>[0,3,12]
 |21=>[0,3,12,13]
 |22=>[0,3,12,13,14,15]
 |23|25|33|34=>[0,3,12,13,14,15,16]
 |24=>[0,3,12,13,14,15,16,156]
 |26=>[0,3,12,13,14,15,16,163]
 |27=>[0,3,12,13,14,15,16,17]
 |28|30|31|32=>[0,3,12,13,14,15,16,17,18]
 |29=>[0,3,12,13,14,15,16,17,18,173]
 |36=>[0,3,5,6,44,227]
 |37|38=>[0,3,5,19]
 |39|40=>[0,3,5,19,20]
 |41=>[0,3,5,19,20,21]
 |42=>[20,21,22]
 |43|44=>[20,22]
 |46=>[0,3,5,6,44,315]
 |47=>[0,3,23]
 |48=>[23,24]
 |49=>[24]
 |51=>[0,3,5,6,44,351]
 |52=>[0,3,25]
 |53=>[26]
 |55=>[0,3,5,6,44,375]
 |57=>[0,3,5,6,379]
 |59=>[0,3,5,6,27]
 |60|62|64=>[0,3,5,6,27,28]
 |61=>[0,3,5,6,27,28,387]
 |63=>[0,3,5,6,27,28,29]
 |_=>[]
@[simp] def aoR:Nat->List (List Nat)
 |1=>[rr,rr,rr,rr,rr,rr,[11],rr,rr,rr,rr,[0,1,2,3,4,5,6,7,8,9,10],rr,[10],rr]
 |4=>[rr,rr,rr,rr,rr,rr,rr,[],rr,rr,rr,rr,rr,[11]]
 |8=>[rr,rr,rr,rr,[0,5,6,7,8,9,10],rr,rr,rr,rr,rr,rr,[0],[],[],rr]
 |32=>[rr,rr,rr,rr,rr,rr,rr,rr,rr,rr,rr,rr,rr,rr,rr,rr,rr,rr,rr,rr,rr,[0],[],rr]
 |39=>[rr,rr,rr,rr,rr,[6,7,8,9,10,12,13,14,15,16,18,19,20,21,22,23,24,25],rr,rr,rr,rr,rr,[12,13,14,15,16,18,19,20,21,22,23,24,25],rr,rr,rr,rr,rr,[18,19,20,21,22,23,24,25],rr,rr,rr,rr,rr,rr,rr,[0,1,2,3,4,5,6,7,8,9,10,11,12,13,14,15,16,17],[],[],rr]
 |47=>[rr,[2,3,4,6],rr,rr,rr,[6],rr,[],[],[],rr]
 |53=>[rr,rr,[0,3,4,5,9,10],rr,rr,rr,[0,9,10],[9,10],[9,10],rr,[0,1,2,3,4,5,6,7,8],[],rr]
 |63=>[rr,rr,rr,rr,rr,rr,rr,rr,rr,rr,rr,[16],rr,rr,rr,rr,[0,1,2,3,4,5,6,7,8,9,10,11,12,13,14,15],rr,[15],rr]
 |_=>[]
@[simp] def aoS:Nat->List Gh
 |1000005=>[.freeze 8351]
 |_=>[]
@[simp] def agn:Nat->List Nat
 |0=>[1,2]
 |1|2=>[1,2,3]
 |3|5|6=>[1,2,3,4]
 |4=>[1,2,3,4,19]
 |7=>[1,2,3,48]
 |8|18|21|23|25|26=>[2]
 |9=>[1,2,3,5]
 |10=>[1,2,3,5,6]
 |11|13|16=>[1,2,3,5,6,7]
 |12=>[1,2,3,5,6,7,55]
 |14=>[1,2,3,5,6,7,8,9]
 |15=>[1,2,3,5,6,7,9]
 |17=>[1,2,3,5,6,88]
 |19=>[1,2,3,10,11,12]
 |20=>[1,2,3,10,11,106]
 |22=>[1,2,10,108]
 |24=>[1,2,10,114]
 |_=>[]
@[simp] def aoT:Nat->List (List Nat)
 |6=>[rr,rr,rr,rr,rr,rr,rr,[0,1],[0,1],[],rr,[]]
 |_=>[]
@[simp] def aoU:Nat->List Gh
 |2=>[.iR 250 4 251 6]
 |1000000=>[.freeze 251]
 |_=>[]
@[simp] def ago:Nat->List Nat
 |0=>[0,1]
 |1=>[0,1,6,7]
 |2|4|7=>[0,1,6,7,8]
 |3=>[0,1,6,7,8,19]
 |5=>[0,1,6,7,8,9,10]
 |6=>[0,1,6,7,8,10]
 |8=>[4,5]
 |_=>[]
@[simp] def agp:Nat->List Nat
 |0=>[0,3,5]
 |1=>[0,3,5,6]
 |2=>[0,3,5,6,21]
 |3|4=>[0,3,5,6,21,22]
 |5|11|14|17|18|20|24|25|28|33|53|54=>[4,5]
 |6|7=>[0,3,5,6,21,28]
 |8=>[0,3,5,6,28]
 |9=>[0,3,5,6,7,8]
 |10=>[0,3,5,6,7,40]
 |12=>[0,3,5,6,7,46]
 |13=>[3,5,6,7,49]
 |15=>[3,5,9,10]
 |16=>[3,5,9,60]
 |19=>[0,3,5,6,7,77]
 |21=>[0,3,5,7,81]
 |22=>[5,7,11]
 |23=>[5,7,11,90]
 |26=>[0,3,5,6,12,13]
 |27=>[0,3,5,6,12,13,106]
 |29=>[0,3,5,6,12,13,14]
 |30=>[0,3,5,6,12,13,14,112]
 |31=>[3,5,6,12,13,14]
 |32=>[3,5,6,12,13,14,124]
 |34=>[3,5,6,12,14,15]
 |35=>[3,5,6,12,14,15,16]
 |36=>[5,6,12,14,15,16,127]
 |37|38|39|40|41|42=>[5,6,12,14,15,16,127,128]
 |43|46|51=>[5,6,12,14,15,16]
 |44|45=>[5,6,12,14,15,16,127,135]
 |47|48|49=>[5,6,12,14,15,16,127,139]
 |50=>[5,6,12,14,15,16,139]
 |52=>[5,6,16,151]
 |_=>[]
@[simp] def aoV:Nat->List (List Nat)
 |11=>[rr,rr,rr,rr,[]]
 |14=>[rr,rr,[]]
 |17=>[rr,rr,rr,rr,[]]
 |20=>[rr,rr,[]]
 |24=>[rr,rr,[]]
 |28=>[rr,rr,[]]
 |33=>[rr,rr,[]]
 |53=>[rr,rr,[]]
 |_=>[]
@[simp] def agq:Nat->List Nat
 |0=>[0,3,4]
 |1=>[0,3,4,5,6]
 |2=>[0,3,4,5,20]
 |3|5|11|16|19|20=>[4]
 |4=>[0,3,4,5,26]
 |6|8=>[0,3,4,5,7]
 |7=>[0,3,4,5,7,34]
 |9=>[0,3,4,5,7,8,9]
 |10=>[0,3,4,5,7,8,54]
 |12|14=>[0,3,4,5,7,8,10]
 |13=>[0,3,4,5,7,8,10,60]
 |15=>[0,3,4,5,7,8,10,73]
 |17=>[0,3,4,5,7,11]
 |18=>[0,3,4,5,7,11,88]
 |_=>[]
@[simp] def aoW:Nat->List (List Nat)
 |9=>[rr,rr,rr,rr,rr,rr,rr,[11],rr,rr,rr,[0,1,2,3,4,5,6,7,8,9,10],[10],rr]
 |15=>[rr,rr,rr,rr,rr,rr,rr,rr,rr,rr,rr]
 |17=>[rr,rr,rr,rr,rr,rr,rr,rr,[9],[0,1,2,3,4,5,6,7,8],[]]
 |_=>[]
@[simp] def aoX:Nat->List (List Nat)
 |1=>[rr,rr,rr,rr,rr,rr,rr,[12],rr,rr,rr,rr,[0,1,2,3,4,5,6,7,8,9,10,11],rr,[11],rr]
 |_=>[]
@[simp] def agr:Nat->List Nat
 |0=>[0,1,2,3,8]
 |1|12|13=>[0,1,2,3,8,12,13,14]
 |2=>[0,1,2,3,8,12,13,14,15]
 |3|6=>[0,1,2,3,8,9,10,12,13,14]
 |4|7=>[0,1,2,3,8,9,10,11,12,13,14]
 |5=>[0,1,2,3,8,9,10,11,12,13,14,21]
 |8=>[0,1,2,3,8,9,11,12,13,14]
 |9=>[0,1,2,3,8,11,12,13,14,34]
 |10=>[0,1,2,3,8,11,12,13,14]
 |11=>[0,1,2,3,8,11,12,13,14,41]
 |_=>[]
@[simp] def aoY:Nat->List (List Nat)
 |0=>[rr,rr,rr,rr,rr,rr,[]]
 |_=>[]
@[simp] def ags:Nat->List Nat
 |0=>[0,3]
 |1=>[0,3,20]
 |2|3=>[0,3,20,21]
 |4|31=>[3]
 |5|9|17|21|32=>[4]
 |6=>[0,3,20,32]
 |7=>[0,5,6]
 |8=>[6]
 |10=>[0,3,20,53]
 |11=>[0,3,8,9]
 |12=>[0,8,9]
 |13|15=>[0,8,9,11]
 |14=>[0,8,9,11,74]
 |16=>[9]
 |18=>[0,3,87]
 |19=>[0,12,13]
 |20=>[13]
 |22=>[0,3,15]
 |23|26|27=>[0,3,15,111,112,113]
 |24=>[0,3,15,111,112,113,114]
 |25=>[0,3,17,111,112,113]
 |28=>[0,3,15,18]
 |29=>[0,3,18,124]
 |30=>[0,3,18]
 |_=>[]
@[simp] def aoZ:Nat->List (List Nat)
 |7=>[rr,rr,rr,rr,rr,rr,[11],rr,rr,rr,rr,[0,1,2,3,4,5,6,7,8,9,10],rr,[10],rr]
 |11=>[rr,rr,rr,rr,rr,rr,[11],rr,rr,rr,rr,[0,1,2,3,4,5,6,7,8,9,10],rr,[10],rr]
 |19=>[rr,rr,rr,rr,rr,rr,rr,rr,[13],rr,rr,rr,rr,[0,1,2,3,4,5,6,7,8,9,10,11,12],rr,[12],rr]
 |_=>[]
@[simp] def agt:Nat->List Nat
 |0=>[2,3]
 |1=>[2,3,4]
 |2|8|9|10=>[2,3,4,5]
 |3|6|7=>[2,3,4,5,24,25,26]
 |4=>[2,3,4,5,24,25,26,27]
 |5=>[2,3,4,5,9,24,25,26]
 |_=>[]
@[simp] def ao0:Nat->List (List Nat)
 |2=>[rr,rr,rr,rr,rr,rr,[11,12],rr,rr,rr,rr,[0,1,2,3,4,5,6,7,8,9,10,12],[0,1,2,3,4,5,6,7,8,9,10,11],[9,10],[10],rr]
 |_=>[]
@[simp] def agu:Nat->List Nat
 |0=>[2,3]
 |_=>[]
@[simp] def agv:Nat->List Nat
 |0=>[0,3]
 |1=>[0,3,4,5]
 |2|7|8=>[0,3,4,5,24,25,26]
 |3=>[0,3,4,5,24,25,26,27]
 |4=>[0,3,4,5,7,8,24,25,26]
 |5=>[0,3,4,5,7,9,24,25,26]
 |6=>[0,3,4,5,9,24,25,26]
 |_=>[]
@[simp] def ao1:Nat->List (List Nat)
 |1=>[rr,rr,rr,rr,rr,rr,[11],rr,rr,rr,rr,[0,1,2,3,4,5,6,7,8,9,10],rr,[10],rr]
 |5=>[rr,rr,rr,rr,rr,rr,rr,[12],rr,rr,rr,rr,[0,1,2,3,4,5,6,7,8,9,10,11],rr,[11],rr]
 |_=>[]
@[simp] def aca:Nat->List Nat
 |0=>[1,2]
 |1|7=>[1,2,3]
 |2|5|6=>[1,2,3,20,21,22]
 |3=>[1,2,3,20,21,22,23]
 |4=>[1,2,3,5,20,21,22]
 |8=>[1,2,3,36]
 |9|12|20|25|28|29=>[2]
 |10=>[1,2,3,8]
 |11=>[1,2,3,44]
 |13=>[1,2,3,9]
 |14=>[1,2,3,9,10]
 |15|22|23=>[1,2,9,10,46,47,48]
 |16=>[1,2,9,10,46,47,48,49]
 |17=>[1,2,9,10,12,46,47,48]
 |18=>[1,2,9,10,13,14,15,46,47,48]
 |19=>[1,2,9,10,13,14,46,47,48,59]
 |21=>[1,2,9,10,14,46,47,48]
 |24=>[1,2,9,10,77]
 |26=>[1,2,16,17,18]
 |27=>[1,2,16,17,98]
 |_=>[]
@[simp] def acb:Nat->List Nat
 |0=>[0]
 |1=>[0,3]
 |2|5|6=>[3,6,7,8]
 |3=>[3,6,7,8,9]
 |4=>[3,5,6,7,8]
 |7=>[2]
 |_=>[]
@[simp] def acd:Nat->List Nat
 |0=>[0,1,2]
 |1|6=>[0,1,2,11,12,13]
 |2=>[0,1,2,11,12,13,14]
 |3=>[0,1,2,10,11,12,13]
 |4=>[0,1,2,11,12,13,25]
 |5|8|10|12|14|16|17=>[6,7,8]
 |7=>[0,1,2,27]
 |9=>[0,1,2,40]
 |11=>[0,1,44]
 |13=>[0,1,57]
 |15=>[0,1,75]
 |_=>[]
@[simp] def akt:Nat->List (List Nat)
 |12=>[rr,rr,rr,rr,rr,rr,rr,[],rr,rr,rr,rr,rr,rr]
 |14=>[rr,rr,rr,rr,rr,rr,rr,[],rr,rr,rr,rr,rr,rr]
 |16=>[rr,rr,rr,rr,rr,rr,rr,[],rr,rr,rr,rr,rr,rr]
 |_=>[]
@[simp] def ace:Nat->List Nat
 |0=>[0,1]
 |1=>[0,1,5]
 |2|9|10=>[1,5,12,13,14]
 |3=>[1,5,12,13,14,15]
 |4=>[1,5,7,12,13,14]
 |5=>[1,5,7,8,12,13,14]
 |6=>[1,5,8,9,10,12,13,14]
 |7=>[1,5,8,9,12,13,14,26]
 |8=>[1,5,8,12,13,14]
 |11=>[4]
 |_=>[]
@[simp] def acf:Nat->List Nat
 |0|6|11|16=>[0]
 |1=>[0,3]
 |2|4|15=>[2]
 |3=>[0,3,8]
 |5=>[0,3,11]
 |7=>[0,3,27]
 |8=>[0,3,4]
 |9=>[0,3,4,33]
 |10=>[0,4]
 |12=>[0,3,39]
 |13=>[0,5]
 |14=>[0,5,46]
 |_=>[]
@[simp] def aku:Nat->List (List Nat)
 |1=>[rr,rr,rr,rr,rr,rr,rr,rr,[],rr]
 |_=>[]
@[simp] def acg:Nat->List Nat
 |0|2|4|5|6|7=>[0,4,5]
 |1=>[0,4,5,6]
 |3=>[0,4,5,23]
 |_=>[]
@[simp] def akv:Nat->List (List Nat)
 |3=>[rr,rr,rr,rr,rr,rr,rr,rr,rr,rr]
 |_=>[]
@[simp] def ach:Nat->List Nat
 |0=>[0,7]
 |_=>[]
@[simp] def aci:Nat->List Nat
 |0|3|5|7=>[0,2]
 |1=>[0,2,3]
 |2=>[0,6]
 |4=>[0,9]
 |6=>[0,2,14]
 |_=>[]
@[simp] def acj:Nat->List Nat
 |0=>[0,1]
 |1|3=>[0,1,5]
 |2=>[0,1,5,10]
 |4=>[4]
 |_=>[]
@[simp] def ack:Nat->List Nat
 |0=>[0,1]
 |1=>[0,1,5]
 |2|4|8=>[0,1,5,6]
 |3=>[0,1,5,6,11]
 |5|7=>[0,1,5,6,7]
 |6=>[0,1,5,6,7,30]
 |9=>[4]
 |_=>[]
@[simp] def acm:Nat->List Nat
 |0=>[1,2,5]
 |1=>[1,2,5,7]
 |2|4=>[1,2,5,7,8]
 |3=>[1,2,5,7,8,15]
 |5=>[1,2,5,7,8,25]
 |6|7=>[4,5,6]
 |_=>[]
@[simp] def akw:Nat->List (List Nat)
 |6=>[rr,rr,rr,rr,rr,rr,rr,rr,rr,rr,rr,[],rr]
 |_=>[]
@[simp] def acn:Nat->List Nat
 |0=>[0,1]
 |1=>[0,1,5]
 |2|4|12=>[0,1,5,6]
 |3=>[0,1,5,6,12]
 |5|7|8|10|11=>[0,1,5,6,7]
 |6=>[0,1,5,6,7,23]
 |9=>[0,1,5,6,7,46]
 |13=>[4]
 |_=>[]
@[simp] def akx:Nat->List (List Nat)
 |10=>[rr,rr,rr,rr,rr,[0,1,2,3,6],rr,[],[],rr]
 |_=>[]
@[simp] def aky:Nat->List Gh
 |8=>[.freeze 1651]
 |11=>[.freeze 2851]
 |_=>[]
@[simp] def aco:Nat->List Nat
 |0=>[0,1]
 |1|3|5=>[0,1,5]
 |2=>[0,1,5,9]
 |4=>[0,1,5,25]
 |6=>[4]
 |_=>[]
@[simp] def akz:Nat->List Gh
 |6=>[.freeze 0]
 |_=>[]
@[simp] def acp:Nat->List Nat
 |0=>[1,2,3,7]
 |1=>[2,7,9,10,11]
 |2=>[2,7,9,10,27]
 |3|9|10=>[6,7,8]
 |4=>[2,7,9,12]
 |5|7=>[2,7,9,12,13]
 |6=>[2,7,9,12,13,35]
 |8=>[2,7,9,12,13,48]
 |_=>[]
@[simp] def akA:Nat->List (List Nat)
 |9=>[rr,rr,rr,rr,rr,rr,rr,rr,[],rr]
 |_=>[]
@[simp] def akB:Nat->List (List Nat)
 |2=>[rr,rr,rr,rr,rr,rr]
 |_=>[]
@[simp] def acq:Nat->List Nat
 |0=>[0,1,2]
 |1|3=>[0,1,2,9]
 |2=>[0,1,2,9,22]
 |4=>[0,1,2,9,39]
 |5|8|10|13|14|16|21|31|33|36|50|52|53=>[6,7,8]
 |6=>[0,1,2,42]
 |7=>[0,1,2,47]
 |9=>[1,57]
 |11=>[10,11]
 |12=>[10,66]
 |15=>[0,1,2,78]
 |17=>[0,2,12,13]
 |18=>[0,12,13,85]
 |19=>[0,12,13]
 |20=>[12,13,86]
 |22=>[12,13,86,87]
 |23|26|28|30=>[14]
 |24|25=>[12,13,86,92]
 |27=>[12,13,86,98]
 |29=>[12,13,106]
 |32=>[0,12,13,117]
 |34=>[0,12,13,119]
 |35=>[15]
 |37=>[0,12,13,16,17,18]
 |38=>[12,13,16,17,18,144]
 |39=>[12,13,16,17,18,144,145]
 |40|42|44|46|48=>[16,17,18]
 |41=>[12,13,16,17,18,144,153]
 |43=>[12,13,16,17,18,144,161]
 |45=>[12,13,16,17,18,144,169]
 |47=>[12,13,16,17,18,177]
 |49=>[16,17,18,186]
 |51=>[16,192]
 |_=>[]
@[simp] def akC:Nat->List (List Nat)
 |17=>[rr,rr,rr,rr,rr,rr,rr,rr]
 |_=>[]
@[simp] def acr:Nat->List Nat
 |0=>[0,1,4]
 |1=>[1,4,6]
 |2|4=>[1,4,6,7]
 |3=>[1,4,6,7,13]
 |5=>[1,4,6,7,26]
 |6|7=>[4,5]
 |_=>[]
@[simp] def acs:Nat->List Nat
 |0=>[1,2,5]
 |1=>[1,2,5,7]
 |2|7|8=>[1,5,7,11,12,13]
 |3=>[1,5,7,11,12,13,14]
 |4=>[1,5,7,9,11,12,13]
 |5=>[1,5,7,9,11,12,13,20]
 |6|9=>[4,5,6]
 |_=>[]
@[simp] def akD:Nat->List (List Nat)
 |6=>[rr,rr,rr,[],rr]
 |_=>[]
@[simp] def akE:Nat->List (List Nat)
 |8=>[rr,rr,rr,rr,rr,rr,rr,rr,[],rr]
 |_=>[]
@[simp] def acu:Nat->List Nat
 |0=>[0,1,2,3]
 |1=>[1,3,5]
 |2|4|5|6=>[1,3,5,6]
 |3=>[1,3,5,6,19]
 |_=>[]
@[simp] def akF:Nat->List (List Nat)
 |5=>[rr,rr,rr,rr,rr,rr,rr,rr,rr,rr,rr,rr,[]]
 |_=>[]
@[simp] def akG:Nat->List Gh
 |2=>[.eY 4 101,.eY 6 101]
 |4=>[.shut 4,.shut 6]
 |_=>[]
@[simp] def akH:Nat->List (List Nat)
 |4=>[rr,rr,rr,rr,rr,[]]
 |_=>[]
@[simp] def akI:Nat->List (List Nat)
 |2=>[rr,rr,rr,rr,rr,[]]
 |9=>[rr,rr,rr,rr,rr,[]]
 |_=>[]
@[simp] def acv:Nat->List Nat
 |0=>[0,1,2]
 |1=>[0,1,2,9]
 |2=>[0,1,2,9,10]
 |3=>[0,1,2,9,10,11]
 |4=>[1,2,9,10,11,12]
 |5=>[1,2,9,10,11,12,13]
 |6|8|10|12|14=>[9,10,11]
 |7=>[1,2,9,10,11,12,21]
 |9=>[1,2,9,10,11,12,29]
 |11=>[1,2,9,10,11,12,37]
 |13=>[1,2,9,10,11,45]
 |15=>[9,10,11,53]
 |16|18|19=>[6,7,8]
 |17=>[9,56]
 |_=>[]
@[simp] def acw:Nat->List Nat
 |1=>[0]
 |_=>[]
@[simp] def acx:Nat->List Nat
 |0=>[0,1]
 |1|6=>[0,1,7,8]
 |2=>[0,1,7,8,9]
 |3=>[0,1,5,7,8]
 |4=>[0,1,5,7,8,16]
 |5|7=>[4]
 |_=>[]
@[simp] def acy:Nat->List Nat
 |0=>[0]
 |1=>[0,3]
 |2=>[0,3,4]
 |3=>[0,3,4,5]
 |4|6|11=>[0,3,4,5,6]
 |5=>[0,3,4,5,6,16]
 |7|8=>[0,3,4,5,6,7]
 |9=>[0,3,4,5,6,8]
 |10=>[0,3,5,6,8]
 |12=>[0,3,37]
 |13|32=>[2]
 |14=>[0,9]
 |15|16=>[0,9,10]
 |17|19|24|25|26|28=>[0,9,10,12]
 |18=>[0,9,10,12,53]
 |20|23|29=>[0,9,10,11,12]
 |21=>[0,9,10,11,12,60]
 |22=>[0,9,10,11,12,66]
 |27=>[0,9,10,12,91]
 |30=>[0,9,10,11,98]
 |31=>[9]
 |_=>[]
@[simp] def acz:Nat->List Nat
 |0=>[0,1]
 |1|3=>[0,1,5]
 |2=>[0,1,5,16]
 |4=>[4]
 |_=>[]
@[simp] def acA:Nat->List Nat
 |0=>[0]
 |1=>[0,5,6]
 |2|6|7=>[0,5,6,16,17,18]
 |3=>[0,5,6,16,17,18,19]
 |4=>[0,5,6,8,16,17,18]
 |5=>[0,5,6,8,16,17,18,25]
 |8=>[0,5,6,9]
 |9=>[0,5,6,9,59]
 |10|17|19=>[2,3,4]
 |11=>[0,5,6,9,10]
 |12|14|18=>[0,5,9,10,11]
 |13=>[0,5,9,10,11,63]
 |15=>[0,5,9,10,11,12]
 |16=>[0,5,9,10,11,12,75]
 |_=>[]
@[simp] def akJ:Nat->List (List Nat)
 |6=>[rr,rr,rr,rr,rr,[2,3,4],rr]
 |_=>[]
@[simp] def acB:Nat->List Nat
 |0=>[0]
 |1|6=>[0,5,6,7]
 |2=>[0,5,6,7,8]
 |3=>[0,4,5,6,7]
 |4=>[0,5,6,7,13]
 |5|8|9=>[2]
 |7=>[18]
 |_=>[]
@[simp] def acC:Nat->List Nat
 |0=>[0,3]
 |_=>[]
@[simp] def akK:Nat->List (List Nat)
 |1=>[rr,rr,rr,rr,rr,rr,rr,rr,rr,rr,[]]
 |_=>[]
@[simp] def acD:Nat->List Nat
 |0|4|6=>[0,1,4]
 |1|2=>[0,1,4,5]
 |3=>[0,1,4,5,26]
 |5=>[0,1,4,31]
 |7=>[0,1,4,6]
 |8|13|14=>[0,1,4,6,7]
 |9=>[0,1,4,6,7,37]
 |10=>[0,1,4,6,8,9]
 |11=>[0,1,4,6,8,56]
 |12=>[0,1,4,6,8]
 |15|18|19=>[0,1,6,7,63,64,65]
 |16=>[0,1,6,7,63,64,65,66]
 |17=>[0,1,6,7,11,63,64,65]
 |_=>[]
@[simp] def akL:Nat->List (List Nat)
 |18=>[rr,rr,rr,rr,rr,rr,rr,rr,rr,rr,rr,rr,rr,rr,rr,rr,rr,rr,rr,rr,[0,1,2,3,4],[0],rr,rr,[]]
 |_=>[]
@[simp] def acE:Nat->List Nat
 |0|1=>[0,2,4]
 |2=>[0,2,4,37]
 |3|4=>[0,2,4,37,38]
 |5|13|17|29=>[6,7]
 |6|7=>[0,2,4,37,48]
 |8=>[0,4,8,9]
 |9=>[0,4,8,11]
 |10=>[0,4,8,11,66]
 |11=>[12,13]
 |12=>[8,11]
 |14=>[0,2,4,90]
 |15=>[0,2,4,15,16]
 |16=>[15,16,18]
 |18=>[0,2,4,20]
 |19=>[0,2,4,20,21]
 |20|22|25=>[0,2,4,20,21,22]
 |21=>[0,2,4,20,21,22,133]
 |23=>[0,2,4,20,22,23,24]
 |24=>[0,2,4,20,22,24]
 |26=>[4,20,21,25]
 |27=>[4,20,25,157]
 |28=>[4,20,25]
 |_=>[]
@[simp] def akM:Nat->List (List Nat)
 |5=>[rr,rr,rr,[4,5,6],rr,rr,rr,rr,rr]
 |8=>[rr,rr,rr,rr,rr,rr,[11],rr,rr,rr,rr,[0,1,2,3,4,5,6,7,8,9,10],rr,[10],rr]
 |11=>[rr,rr,rr,rr,rr,rr,rr,rr,[13],rr,rr,rr,rr,[0,1,2,3,4,5,6,7,8,9,10,11,12],rr,[12],rr]
 |12=>[rr,rr,rr,rr,rr]
 |15=>[rr,rr,rr,rr,rr,rr,[11],rr,rr,rr,rr,[0,1,2,3,4,5,6,7,8,9,10],rr,[10],rr]
 |17=>[rr,rr,rr,rr,rr,rr,rr,rr,rr,rr,[0,13,14,15],[13,14,15],[13,14,15],rr,rr,rr,rr,rr]
 |29=>[rr,rr,[0,5,6,7],[5,6,7],[5,6,7],rr,rr,rr,rr,rr,rr,rr,rr,rr,rr]
 |_=>[]
@[simp] def akN:Nat->List (List Nat)
 |4=>[rr,rr,[0,7,8],[7,8],rr,rr,rr,[0,1,2,3,4,5,6,8],[0,1,2,3,4,5,6,7],[6],[]]
 |_=>[]
@[simp] def acF:Nat->List Nat
 |0=>[0,1]
 |1|6=>[0,1,7,8]
 |2=>[0,1,7,8,9]
 |3=>[0,1,5,7,8]
 |4=>[0,1,5,7,8,16]
 |5|7=>[4]
 |_=>[]
@[simp] def acG:Nat->List Nat
 |0=>[0,1]
 |1=>[0,1,5]
 |2=>[0,1,5,6]
 |3|8|9|11=>[0,1,5,6,14]
 |4=>[0,1,5,6,14,15,16]
 |5=>[0,1,5,6,7,8,14]
 |6=>[0,1,5,6,7,14,21]
 |7=>[0,1,5,6,7,14,23]
 |10=>[0,1,5,6,7,14,33]
 |12=>[0,5,6,36]
 |13=>[0,5]
 |14=>[0,5,9]
 |15|18|19=>[0,9,47,48,49]
 |16=>[0,9,47,48,49,50]
 |17=>[0,9,10,11,47,48,49]
 |20=>[4]
 |_=>[]
@[simp] def acH:Nat->List Nat
 |0=>[0,1]
 |1=>[0,1,5]
 |2=>[0,1,5,16]
 |3|5|7|9|19|22|28|29|33|34|35=>[4]
 |4=>[0,1,5,24]
 |6=>[0,1,5,31]
 |8=>[0,1,5,36]
 |10=>[0,1,5,6]
 |11=>[0,1,5,6,7]
 |12=>[0,1,5,6,7,8]
 |13=>[0,1,5,6,7,8,9]
 |14|20|23|24=>[0,1,5,6,7,8,9,10]
 |15=>[0,1,5,6,7,8,9,10,59]
 |16=>[0,1,5,6,7,8,9,10,64]
 |17=>[0,1,5,6,7,8,9,10,11]
 |18=>[0,1,5,6,7,8,9,10,11,73]
 |21=>[0,1,5,6,7,8,9,10,93]
 |25=>[0,1,5,6,7,8,9,10,107]
 |26=>[8,12]
 |27=>[8,12,114]
 |30=>[0,1,5,6,7,8,9,10,132]
 |31=>[8,13]
 |32=>[8,13,139]
 |_=>[]
@[simp] def akO:Nat->List (List Nat)
 |1=>[rr,[2],rr,rr,rr]
 |_=>[]
@[simp] def acI:Nat->List Nat
 |0=>[0,1]
 |1|6=>[0,1,7,8]
 |2=>[0,1,7,8,9]
 |3=>[0,1,5,7,8]
 |4=>[0,1,5,7,8,16]
 |5|7=>[4]
 |_=>[]
@[simp] def acJ:Nat->List Nat
 |0=>[0,2]
 |1=>[0,2,7]
 |2|4|6|12|18|20|22|25|30=>[2]
 |3=>[0,2,12]
 |5=>[0,2,17]
 |7=>[0,2,22]
 |8|9|10=>[0,2,3]
 |11=>[2,3]
 |13=>[0,2,38]
 |14|15|16=>[0,2,4]
 |17=>[2,4]
 |19=>[0,2,54]
 |21=>[0,2,58]
 |23=>[0,2,5]
 |24=>[0,2,5,65]
 |26=>[0,2,5,6]
 |27=>[0,2,5,6,76]
 |28|29=>[0,2,6]
 |_=>[]
@[simp] def akP:Nat->List (List Nat)
 |28=>[rr,rr,rr,[0,1,5,6],[0,1,5,6],rr,rr,rr,[]]
 |30=>[rr,rr,[0],rr,[]]
 |_=>[]
@[simp] def acK:Nat->List Nat
 |0=>[2,3,4]
 |1=>[2,3,4,5]
 |2|4=>[2,3,4,5,6]
 |3=>[2,3,4,5,6,11]
 |5|7|12=>[2,3,4,5,6,7]
 |6=>[2,3,4,5,6,7,15]
 |8=>[2,3,4,5,6,7,8]
 |9|10=>[2,3,4,5,6,7,8,9]
 |11=>[2,3,4,5,6,7,9]
 |13=>[4,5]
 |14=>[4]
 |_=>[]
@[simp] def akQ:Nat->List (List Nat)
 |8=>[rr,rr,rr,rr,rr,rr,rr,rr,rr,rr]
 |_=>[]
@[simp] def acL:Nat->List Nat
 |0=>[2,3,4,5]
 |1=>[2,3,4,5,6,7]
 |2|4|5|6|8|9|11|12=>[2,3,4,5,6,7,8]
 |3=>[2,3,4,5,6,7,8,10]
 |7=>[2,3,4,5,6,7,8,29]
 |10=>[2,3,4,5,6,7,8,40]
 |13=>[4,5]
 |_=>[]
@[simp] def akR:Nat->List (List Nat)
 |13=>[rr,rr,[1],[]]
 |_=>[]
@[simp] def acM:Nat->List Nat
 |0=>[0,1]
 |1=>[0,1,5,6]
 |2=>[0,1,5,6,7]
 |3=>[0,1,5,6,7,8]
 |4|6|7=>[0,1,5,6,7,8,9]
 |5=>[0,1,5,6,7,8,9,20]
 |8=>[0,1,5,6,7,8,39]
 |9|17|18=>[4]
 |10|12|13|14|15=>[0,1,5,6,7,8,10]
 |11=>[0,1,5,6,7,8,10,44]
 |16=>[0,1,5,6,7,8,10,77]
 |_=>[]
@[simp] def acN:Nat->List Nat
 |0=>[0,1]
 |1|6=>[0,1,7,8]
 |2=>[0,1,7,8,9]
 |3=>[0,1,5,7,8]
 |4=>[0,1,5,7,8,16]
 |5|7=>[4]
 |_=>[]
@[simp] def akS:Nat->List (List Nat)
 |7=>[rr,rr,rr,[0,1],rr,[]]
 |_=>[]
@[simp] def acO:Nat->List Nat
 |0=>[0,2]
 |1|2|3|4|7=>[0,2,3]
 |5=>[0,2,3,24]
 |6=>[0,2,3,26]
 |8=>[2,3]
 |9=>[2]
 |_=>[]
@[simp] def akT:Nat->List (List Nat)
 |2=>[rr,rr,rr,[0,1],[0,1],[],rr,[]]
 |4=>[rr,rr,rr,[0,1,2],[0,1],[0,1],[],rr,[]]
 |7=>[rr,rr,rr,[0,1,2],[0,1],[0,1],[],rr,[]]
 |_=>[]
@[simp] def akU:Nat->List Gh
 |1=>[.iR 250 14 251 6,.iR 250 17 252 1]
 |_=>[]
@[simp] def acP:Nat->List Nat
 |0=>[0,2]
 |1|2|4|8|10=>[0,2,3]
 |3=>[0,2,3,11]
 |5|7=>[0,2,3,4]
 |6=>[0,2,3,4,31]
 |9=>[0,2,3,44]
 |11=>[2,3]
 |12=>[2]
 |_=>[]
@[simp] def akV:Nat->List (List Nat)
 |4=>[rr,rr,rr,[0,1],[0,1],[],rr,[]]
 |10=>[rr,rr,rr,[0,1,2],[0,1],[0,1],[],rr,[]]
 |_=>[]
@[simp] def akW:Nat->List Gh
 |1=>[.iR 250 15 251 1,.iR 250 17 252 1]
 |1000002=>[.freeze 300]
 |_=>[]
@[simp] def akX:Nat->List (List Nat)
 |5=>[rr,rr,[0],[],rr,[]]
 |_=>[]
@[simp] def acQ:Nat->List Nat
 |0=>[0,1,4]
 |1|4|5|6=>[0,4,5]
 |2=>[0,4,5,9]
 |3|9=>[4]
 |7=>[0,4,5,30]
 |8=>[4,5]
 |_=>[]
@[simp] def akY:Nat->List (List Nat)
 |4=>[rr,rr,rr,[0,1],rr,[0,1],[],rr,[]]
 |6=>[rr,rr,rr,[0,1],[0,1],[],rr,[]]
 |_=>[]
@[simp] def akZ:Nat->List Gh
 |1=>[.iR 350 14 351 6,.iR 350 16 352 1]
 |_=>[]
@[simp] def acR:Nat->List Nat
 |0=>[2,3,4]
 |1=>[2,3,4,5]
 |2|4|6=>[2,3,4,5,6]
 |3=>[2,3,4,5,6,9]
 |5=>[2,3,4,6,7]
 |7=>[4]
 |_=>[]
@[simp] def ak0:Nat->List (List Nat)
 |5=>[rr,rr,rr,rr,rr,rr,rr,rr,rr,rr,rr,rr]
 |_=>[]
@[simp] def acS:Nat->List Nat
 |0=>[2,3]
 |1|3=>[2,3,5]
 |2=>[2,3,5,7]
 |4=>[2,3,5,18]
 |5|7|8=>[4]
 |6=>[2,3,5,27]
 |_=>[]
@[simp] def ak1:Nat->List (List Nat)
 |4=>[rr,rr,rr,rr,rr,rr,rr,rr,rr]
 |6=>[rr,rr,rr,rr,rr,rr,rr,rr,rr]
 |_=>[]
@[simp] def acT:Nat->List Nat
 |0=>[2,3,4]
 |1=>[2,3,4,5]
 |2|4|6=>[2,3,4,5,6]
 |3=>[2,3,4,5,6,9]
 |5=>[2,3,4,6,7]
 |7=>[4]
 |_=>[]
@[simp] def ak2:Nat->List (List Nat)
 |5=>[rr,rr,rr,rr,rr,rr,rr,rr,rr,rr,rr,rr,rr]
 |_=>[]
@[simp] def acU:Nat->List Nat
 |0=>[0,1]
 |1=>[0,1,17]
 |2|10=>[0,1,19,20]
 |3=>[0,1,19,20,21]
 |4=>[0,1,5,19,20]
 |5=>[0,1,6,19,20]
 |6=>[0,1,6,19,20,31]
 |7|9|11|18|22=>[4]
 |8=>[0,1,6,19,20,37]
 |12=>[0,1,7]
 |13|20|21=>[0,1,7,8]
 |14=>[0,1,7,8,62]
 |15=>[0,1,7,8,9]
 |16=>[0,1,7,8,9,10]
 |17=>[0,1,7,8,9,10,85]
 |19=>[0,1,7,8,9,110]
 |_=>[]
@[simp] def ak3:Nat->List (List Nat)
 |9=>[rr,rr,rr,rr,rr,rr,rr,rr,rr,rr,rr,rr,rr,rr,rr,rr,rr,rr,rr,rr]
 |18=>[rr,rr,rr,rr,rr,rr,rr,rr,rr,rr,rr,rr,rr,rr,rr,rr,rr,rr,rr,rr]
 |_=>[]
@[simp] def acV:Nat->List Nat
 |0=>[0,1]
 |1=>[0,1,13]
 |2|10=>[0,1,15,16]
 |3=>[0,1,15,16,17]
 |4=>[0,1,5,15,16]
 |5=>[0,1,6,15,16]
 |6=>[0,1,6,15,16,27]
 |7|9|11|18|22=>[4]
 |8=>[0,1,6,15,16,33]
 |12=>[0,1,7]
 |13|20|21=>[0,1,7,8]
 |14=>[0,1,7,8,58]
 |15=>[0,1,7,8,9]
 |16=>[0,1,7,8,9,10]
 |17=>[0,1,7,8,9,10,78]
 |19=>[0,1,7,8,9,95]
 |_=>[]
@[simp] def ak4:Nat->List (List Nat)
 |9=>[rr,rr,rr,rr,rr,rr,rr,rr,rr,rr,rr,rr,rr,rr,rr,rr,rr,rr,rr,rr]
 |_=>[]
@[simp] def acW:Nat->List Nat
 |0=>[0]
 |1=>[0,4]
 |2|4|5=>[0,4,5]
 |3=>[0,4,5,12]
 |6=>[0,4,6,7]
 |7|9|11|12=>[4,6,7,8]
 |8=>[4,6,7,8,25]
 |10=>[4,6,7,8,30]
 |13=>[2,3]
 |_=>[]
@[simp] def acX:Nat->List Nat
 |0=>[0]
 |1|6=>[0,3]
 |2=>[0,3,4]
 |3|5=>[0,3,4,5]
 |4=>[0,3,4,5,10]
 |7=>[0,3,20]
 |8=>[3]
 |9=>[2]
 |_=>[]
@[simp] def acY:Nat->List Nat
 |0=>[0,1,4]
 |1=>[0,1,4,5]
 |2=>[0,1,4,5,12]
 |3|9=>[4]
 |4|7=>[0,1,4,5,6]
 |5=>[0,1,4,5,6,25]
 |6=>[0,1,4,5,6,7]
 |8=>[0,1,4,5,6,41]
 |_=>[]
@[simp] def ak5:Nat->List (List Nat)
 |7=>[rr,rr,[3,4,5,6,9,10],rr,rr,rr,rr,[3,9,10],[9,10],rr,rr,rr,[]]
 |_=>[]
@[simp] def acZ:Nat->List Nat
 |1=>[0]
 |_=>[]
@[simp] def ak6:Nat->List (List Nat)
 |10=>[rr,rr,[0,4,5,7],[0,4,5,7],rr,rr,rr,[0,1,2,3,4,5,6],[]]
 |_=>[]
@[simp] def ac0:Nat->List Nat
 |0|9|10=>[0,2]
 |1|15=>[0,2,3]
 |2=>[0,2,3,7]
 |3|5|7|14|17|19|20=>[2]
 |4=>[0,2,3,17]
 |6=>[0,2,3,23]
 |8=>[0,2,3,29]
 |11|12=>[0,2,4]
 |13=>[2,4]
 |16=>[0,2,3,45]
 |18=>[0,2,3,56]
 |_=>[]
@[simp] def ak7:Nat->List (List Nat)
 |3=>[rr,[3,4],rr,rr,rr,rr,[]]
 |17=>[rr,rr,rr,[0,1,5,6],[0,1,5,6],rr,rr,rr,[]]
 |19=>[rr,rr,rr,[0,1,5,6],rr,rr,rr,rr,[]]
 |_=>[]
end Go.Am
end
section
namespace Go.Am
open Go Go.Proofs.Tryz
open Go.Proofs Go.Proofs.Tryz
set_option maxRecDepth 10000
@[simp] noncomputable def tA0:Nat->Tb
 |4=>⟨za,zg,[],fs [150,250,350],zl,zo⟩
 |7=>⟨za,zg,[],fs [150],zl,zo⟩
 |8=>⟨akr,zg,[9,11,13],fs [150,300],zl,zo⟩
 |9=>⟨aks,zg,[],fs [150,200,350],zl,od9⟩
 |10=>⟨za,aou,[],fs [150,200,700,701,702,703],zl,aot⟩
 |15=>⟨za,zg,[3],fs [150,250,300],zl,zo⟩
 |_=>zt
@[simp] noncomputable def tA1:Nat->Tb
 |0=>⟨za,zg,[1],fs [150],zl,zo⟩
 |1=>⟨afX,zg,[7],fs [150,200,800,1051],zl,zo⟩
 |2=>⟨afY,zg,[],fs [200,250],zl,aov⟩
 |5=>⟨za,zg,[],fs [200],zl,zo⟩
 |6=>⟨afZ,zg,[1,7,8],fs [],zl,zo⟩
 |7=>⟨af0,zg,[],fs [],zl,zo⟩
 |8=>⟨af1,zg,[6,8,10,35],fs [300],zl,aow⟩
 |9=>⟨af2,zg,[],fs [300],zl,zo⟩
 |10=>⟨za,zg,[],fs [150],zl,zo⟩
 |11=>⟨af3,zg,[],fs [400,500],zl,zo⟩
 |12=>⟨af4,aoy,[],fs [150,200,250,251,252,350],zl,zo⟩
 |13=>⟨af5,zg,[],⟨[1,2,3,4,5,6,7,8],false,[350],[],false⟩,zl,zo⟩
 |14=>⟨za,zg,[],fs [150,200],zl,zo⟩
 |15=>⟨af6,zg,[],⟨[1,2,3,4,5,6,7,8],false,[],[1],false⟩,zl,zo⟩
 |_=>zt
@[simp] noncomputable def tA2:Nat->Tb
 |0=>⟨za,zg,[],⟨[1,2,3,4,5,6,7,8],false,[300],[],false⟩,zl,aoz⟩
 |8=>⟨af7,aoA,[],fs [150,200,250,251,252,350],zl,zo⟩
 |9=>⟨af8,zg,[],fs [350,500],zl,zo⟩
 |11=>⟨za,aoC,[],fs [200,250,300,1150,1151],zl,aoB⟩
 |12=>⟨af9,aoE,[],⟨[],true,[300,350,1251],[],false⟩,zl,aoD⟩
 |13=>⟨aga,aoG,[],fs [250,350,352,353],zl,aoF⟩
 |15=>⟨agb,zg,[],fs [550],zl,zo⟩
 |_=>zt
@[simp] noncomputable def tA3:Nat->Tb
 |0=>⟨agc,zg,[],fs [],zl,zo⟩
 |1=>⟨agd,zg,[],fs [],zl,zo⟩
 |2=>⟨za,zg,[],fs [],zl,zo⟩
 |3=>⟨age,zg,[7,22],fs [300],zl,zo⟩
 |4=>⟨za,zg,[],fs [150],zl,zo⟩
 |5=>⟨agf,zg,[],fs [300,400,450,600,750,800,850,950,1000,1150,1200,1250],zl,zo⟩
 |6=>⟨za,zg,[],fs [150],zl,zo⟩
 |7=>⟨agh,aoI,[],⟨[1,2,3,4,5,6,7,8],false,[101,200,250],[],false⟩,aoJ,aoH⟩
 |8=>⟨agi,aoL,[],fs [250,350,400],zl,aoK⟩
 |9=>⟨zk,zg,[],⟨[1,2,3,4,5,6,7,8],false,[],[],false⟩,aoN,aoM⟩
 |_=>zt
@[simp] noncomputable def tA4:Nat->Tb
 |7=>⟨agj,zg,[],fs [250,851],zl,aoO⟩
 |12=>⟨agk,zg,[],fs [200,300,400,500,550,950],zl,aoP⟩
 |13=>⟨za,zg,[],fs [300],zl,aoQ⟩
 |14=>⟨za,zg,[],fs [200,250],zl,zo⟩
 |15=>⟨agl,zg,[],⟨[],true,[200,250],[],false⟩,zl,zo⟩
 |_=>zt
@[simp] noncomputable def tA5:Nat->Tb
 |0=>⟨za,zg,[],⟨[],true,[150,200,300],[],false⟩,zl,zo⟩
 |1=>⟨agm,aoS,[],fs [250,400,550,600,800,850,1600,8351,15051,16851,18451],zl,aoR⟩
 |2=>⟨agn,aoU,[7,17],fs [150,200,250,251,350,400],zl,aoT⟩
 |6=>⟨ago,zg,[],fs [],zl,zo⟩
 |7=>⟨agp,zg,[],fs [250,350,400,450,550,650,750],zl,aoV⟩
 |8=>⟨za,zg,[],fs [300,400,500],zl,zo⟩
 |9=>⟨agq,zg,[],fs [250,300,350,500,650],zl,aoW⟩
 |10=>⟨zk,zg,[],⟨[1,2,3,4,5,6,7,8],false,[],[],false⟩,zl,zo⟩
 |11=>⟨za,zg,[],⟨[1,2,3,4,5,6,7,8],false,[250,350],[],false⟩,zl,aoX⟩
 |12=>⟨agr,zg,[],⟨[1,2,3,4,5,6,7,8],false,[500],[],false⟩,zl,zo⟩
 |13=>⟨zk,zg,[],⟨[1,2,3,4,5,6,7,8],false,[],[],false⟩,zl,aoY⟩
 |14=>⟨ags,zg,[],⟨[1,2,3,4,5,6,7,8],false,[250,400,550,750,950,1000],[],false⟩,zl,aoZ⟩
 |15=>⟨za,zg,[],⟨[1,2,3,4,5,6,7,8],false,[200,250,300],[],false⟩,zl,zo⟩
 |_=>zt
@[simp] noncomputable def tA6:Nat->Tb
 |0=>⟨agt,zg,[],⟨[1,2,3,4,5,6,7,8],false,[200,250,300,350,400,550],[],false⟩,zl,ao0⟩
 |1=>⟨agu,zg,[],⟨[1,2,3,4,5,6,7,8],false,[200,250],[],false⟩,zl,zo⟩
 |2=>⟨za,zg,[],⟨[1,2,3,4,5,6,7,8],false,[],[],false⟩,zl,zo⟩
 |3=>⟨agv,zg,[],⟨[1,2,3,4,5,6,7,8],false,[250,350,600],[],false⟩,zl,ao1⟩
 |4=>⟨aca,zg,[27],fs [150,200,250,350,550,700],zl,zo⟩
 |5=>⟨acb,zg,[],fs [250,350],zl,zo⟩
 |6=>⟨za,zg,[],⟨[1,2,3,4,5,6,7,8],false,[],[],false⟩,zl,zo⟩
 |13=>⟨acd,zg,[],fs [],zl,akt⟩
 |14=>⟨za,zg,[],fs [150,200],zl,zo⟩
 |15=>⟨ace,zg,[],⟨[],true,[300,350,500],[],false⟩,zl,zo⟩
 |_=>zt
@[simp] noncomputable def tA7:Nat->Tb
 |11=>⟨acf,zg,[5],fs [],zl,zo⟩
 |12=>⟨za,zg,[],fs [],zl,aku⟩
 |13=>⟨za,zg,[],fs [250,300],zl,zo⟩
 |14=>⟨acg,zg,[],fs [],zl,akv⟩
 |15=>⟨ach,zg,[],⟨[1],false,[],[],false⟩,zl,zo⟩
 |_=>zt
@[simp] noncomputable def tA8:Nat->Tb
 |0=>⟨za,zg,[],⟨[1],false,[300],[],false⟩,zl,zo⟩
 |1=>⟨aci,zg,[],fs [],zl,zo⟩
 |2=>⟨acj,zg,[],⟨[1],false,[350],[],false⟩,zl,zo⟩
 |3=>⟨ack,zg,[],fs [350,450],zl,zo⟩
 |4=>⟨acm,zg,[],fs [200,350,450],zl,akw⟩
 |5=>⟨za,zg,[],fs [300],zl,zo⟩
 |6=>⟨acn,aky,[],⟨[0,1],false,[1651,2851],[0,1],false⟩,zl,akx⟩
 |7=>⟨aco,akz,[4],⟨[0],false,[],[0],false⟩,zl,zo⟩
 |8=>⟨acp,zg,[8],fs [250,450,600],zl,akA⟩
 |9=>⟨za,zg,[3],fs [150],zl,akB⟩
 |10=>⟨acq,zg,[4],fs [],zl,akC⟩
 |15=>⟨acr,zg,[5],fs [300],zl,zo⟩
 |_=>zt
@[simp] noncomputable def tA9:Nat->Tb
 |0=>⟨za,zg,[],fs [250,300,400],zl,zo⟩
 |1=>⟨acs,zg,[],fs [200,350,550],zl,akD⟩
 |2=>⟨zk,zg,[],⟨[1,2,3,4,5,6,7,8],false,[],[],false⟩,zl,zo⟩
 |3=>⟨za,zg,[],⟨[1,2,3,4,5,6,7,8],false,[],[],false⟩,zl,zo⟩
 |4=>⟨za,zg,[],⟨[1,2,3,4,5,6,7,8],false,[],[],false⟩,zl,zo⟩
 |5=>⟨za,zg,[],fs [250,350,450,600],zl,akE⟩
 |6=>⟨za,zg,[],⟨[1,2,3,4,5,6,7,8],false,[],[],false⟩,zl,zo⟩
 |7=>⟨acu,zg,[],⟨[1,2,3,4,5,6,7,8],false,[],[],false⟩,zl,akF⟩
 |8=>⟨za,akG,[],⟨[1,2,3,4,5,6,7,8],false,[101,650],[],false⟩,zl,zo⟩
 |9=>⟨za,zg,[],⟨[1,2,3,4,5,6,7,8],false,[],[],false⟩,zl,akH⟩
 |10=>⟨za,zg,[],⟨[1,2,3,4,5,6,7,8],false,[],[],false⟩,zl,akI⟩
 |11=>⟨za,zg,[5],fs [150],zl,zo⟩
 |12=>⟨za,zg,[],fs [],zl,zo⟩
 |13=>⟨za,zg,[],fs [400],zl,zo⟩
 |_=>zt
@[simp] noncomputable def ao2:Nat->Tb
 |4=>⟨za,zg,[],fs [],zl,zo⟩
 |5=>⟨za,zg,[],fs [],zl,zo⟩
 |6=>⟨acv,zg,[],fs [],zl,zo⟩
 |7=>⟨za,zg,[],fs [],zl,zo⟩
 |8=>⟨acw,zg,[],fs [],zl,zo⟩
 |9=>⟨acx,zg,[],fs [],zl,zo⟩
 |10=>⟨za,zg,[],fs [200],zl,zo⟩
 |11=>⟨acy,zg,[18,27],fs [2150],zl,zo⟩
 |12=>⟨za,zg,[],fs [],zl,zo⟩
 |_=>zt
@[simp] noncomputable def ao3:Nat->Tb
 |1=>⟨za,zg,[],fs [],zl,zo⟩
 |2=>⟨za,zg,[],fs [],zl,zo⟩
 |3=>⟨za,zg,[],fs [],zl,zo⟩
 |4=>⟨za,zg,[1],fs [],zl,zo⟩
 |5=>⟨acz,zg,[2],fs [],zl,zo⟩
 |6=>⟨za,zg,[1],fs [],zl,zo⟩
 |7=>⟨za,zg,[],fs [],zl,zo⟩
 |8=>⟨za,zg,[],fs [],zl,zo⟩
 |9=>⟨acA,zg,[9],fs [350,500],zl,akJ⟩
 |10=>⟨acB,zg,[],fs [],zl,zo⟩
 |11=>⟨za,zg,[],⟨[1],false,[],[],false⟩,zl,zo⟩
 |12=>⟨acC,zg,[],fs [250],zl,zo⟩
 |13=>⟨za,zg,[],⟨[1],false,[200],[],false⟩,zl,akK⟩
 |14=>⟨za,zg,[],⟨[1],false,[200,250],[],false⟩,zl,zo⟩
 |15=>⟨acD,zg,[],fs [300,350,400,650],zl,akL⟩
 |_=>zt
@[simp] noncomputable def ao4:Nat->Tb
 |0=>⟨za,zg,[],⟨[1],false,[],[],false⟩,zl,zo⟩
 |1=>⟨za,zg,[],⟨[1],false,[350],[],false⟩,zl,zo⟩
 |2=>⟨za,zg,[],⟨[1],false,[200,250,300],[],false⟩,zl,zo⟩
 |3=>⟨acE,zg,[],fs [300,550,750,900,1350],zl,akM⟩
 |4=>⟨za,zg,[],fs [],zl,zo⟩
 |5=>⟨za,zg,[],fs [],zl,zo⟩
 |6=>⟨za,zg,[],fs [],zl,zo⟩
 |7=>⟨za,zg,[],fs [],zl,zo⟩
 |8=>⟨za,zg,[],fs [400,450,500,550],zl,zo⟩
 |9=>⟨za,zg,[],fs [400,450,500],zl,akN⟩
 |_=>zt
@[simp] noncomputable def ao5:Nat->Tb
 |3=>⟨acF,zg,[],fs [],zl,zo⟩
 |4=>⟨za,zg,[],fs [200],zl,zo⟩
 |5=>⟨za,zg,[],fs [],zl,zo⟩
 |6=>⟨za,zg,[],fs [],zl,zo⟩
 |7=>⟨za,zg,[],fs [],zl,zo⟩
 |8=>⟨za,zg,[],fs [],zl,zo⟩
 |9=>⟨za,zg,[],fs [],zl,zo⟩
 |10=>⟨acG,zg,[],fs [650,700,2400],zl,zo⟩
 |11=>⟨za,zg,[],fs [],zl,zo⟩
 |12=>⟨za,zg,[],fs [],zl,zo⟩
 |13=>⟨za,zg,[1],fs [],zl,zo⟩
 |14=>⟨za,zg,[],fs [],zl,zo⟩
 |15=>⟨acH,zg,[21,25],fs [],zl,zo⟩
 |_=>zt
@[simp] noncomputable def ao6:Nat->Tb
 |0=>⟨za,zg,[],fs [],zl,zo⟩
 |1=>⟨za,zg,[],fs [],zl,akO⟩
 |2=>⟨za,zg,[],fs [],zl,zo⟩
 |3=>⟨za,zg,[],⟨[1],false,[200,250,400],[],false⟩,zl,zo⟩
 |4=>⟨za,zg,[],⟨[1],false,[],[],false⟩,zl,zo⟩
 |5=>⟨acI,zg,[],⟨[1],false,[],[],false⟩,zl,zo⟩
 |6=>⟨za,zg,[],⟨[1],false,[],[],false⟩,zl,zo⟩
 |7=>⟨acJ,zg,[],⟨[1],false,[200,250,300,350,400],[],false⟩,zl,akP⟩
 |8=>⟨zk,zg,[],⟨[1],false,[],[],false⟩,zl,zo⟩
 |9=>⟨za,zg,[1],fs [150],zl,zo⟩
 |10=>⟨za,zg,[],fs [200,250,300],zl,zo⟩
 |11=>⟨za,zg,[],fs [200],zl,zo⟩
 |12=>⟨za,zg,[],fs [150,200],zl,zo⟩
 |13=>⟨acK,zg,[],fs [200,250,300,350,550],zl,akQ⟩
 |14=>⟨acL,zg,[],fs [200,250,300,350,400,450],zl,akR⟩
 |_=>zt
@[simp] noncomputable def ao7:Nat->Tb
 |4=>⟨za,zg,[],fs [],zl,zo⟩
 |5=>⟨za,zg,[],fs [],zl,zo⟩
 |6=>⟨za,zg,[],fs [],zl,zo⟩
 |7=>⟨za,zg,[3,6],fs [],zl,zo⟩
 |8=>⟨za,zg,[1],fs [],zl,zo⟩
 |11=>⟨za,zg,[],fs [],zl,zo⟩
 |12=>⟨acM,zg,[8,16],fs [],zl,zo⟩
 |13=>⟨acN,zg,[],fs [],zl,zo⟩
 |14=>⟨za,zg,[],⟨[1],false,[],[],false⟩,zl,zo⟩
 |15=>⟨za,zg,[],⟨[1],false,[250,300,350],[],false⟩,zl,akS⟩
 |_=>zt
@[simp] noncomputable def ao8:Nat->Tb
 |0=>⟨za,zg,[],fs [150],zl,zo⟩
 |1=>⟨za,zg,[],⟨[1],false,[],[],false⟩,zl,zo⟩
 |2=>⟨acO,akU,[],⟨[1],false,[200,250,251,252],[],false⟩,zl,akT⟩
 |3=>⟨acP,akW,[6],⟨[1],false,[200,250,251,252,300],[],false⟩,zl,akV⟩
 |4=>⟨za,zg,[],⟨[1],false,[200,250,300,350,1050],[],false⟩,zl,akX⟩
 |5=>⟨za,zg,[],⟨[1],false,[200],[],false⟩,zl,zo⟩
 |6=>⟨acQ,akZ,[],⟨[1],false,[300,350,351,352],[],false⟩,zl,akY⟩
 |7=>⟨za,zg,[],⟨[1],false,[200,250],[],false⟩,zl,zo⟩
 |8=>⟨acR,zg,[],fs [200,250,300],zl,ak0⟩
 |9=>⟨acS,zg,[],fs [200,250],zl,ak1⟩
 |10=>⟨acT,zg,[],fs [200,250,300],zl,ak2⟩
 |_=>zt
@[simp] noncomputable def ao9:Nat->Tb
 |0=>⟨acU,zg,[],fs [],zl,ak3⟩
 |1=>⟨acV,zg,[],fs [600],zl,ak4⟩
 |2=>⟨acW,zg,[],fs [],zl,zo⟩
 |3=>⟨za,zg,[],fs [200],zl,zo⟩
 |4=>⟨za,zg,[1],⟨[1],false,[],[],false⟩,zl,zo⟩
 |5=>⟨acX,zg,[],⟨[1],false,[250],[],false⟩,zl,zo⟩
 |6=>⟨acY,zg,[],⟨[1],false,[300,400,450],[],false⟩,zl,ak5⟩
 |9=>⟨acZ,zg,[],fs [],zl,zo⟩
 |10=>⟨za,zg,[],⟨[1],false,[200,250,350],[],false⟩,zl,ak6⟩
 |11=>⟨za,zg,[],fs [],zl,zo⟩
 |13=>⟨ac0,zg,[],⟨[1],false,[200,250,300],[],false⟩,zl,ak7⟩
 |_=>zt
@[simp] noncomputable def tbT:Nat->Nat->Tb
 |0=>tA0
 |1=>tA1
 |2=>tA2
 |3=>tA3
 |4=>tA4
 |5=>tA5
 |6=>tA6
 |7=>tA7
 |8=>tA8
 |9=>tA9
 |10=>ao2
 |11=>ao3
 |12=>ao4
 |13=>ao5
 |14=>ao6
 |15=>ao7
 |16=>ao8
 |17=>ao9
 |_=>λ_=>zt
@[simp] noncomputable def oJ(n:Nat):Tb:=tbT (n/16) (n%16)
def bP:Type:=Int
variable [Inhabited bP]
def JO:List Int:=[0,0,0,0,0,0,0,0,0,1,1,1,1,1,0,0,0,0,0,0,0,0,0,0,0,0,0,0,0,0,0,0,1,0,0,0,0,0,0,0,0,0,0,0,0,0,0,0,0,0,0,0,0,0,0,0,0,0,0,0,0,0,0,0,0,0,0,0,0,0,0,0,0,0,0,0,0,0,0,0,0,0,0,0,0,0,0,0,0,0,0,0,0,0,0,0,0,0,0,0,0,0,0,0,0,0,0,0,0,0,0,0,0,0,0,0,0,0,0,0,0,0,0,0,0,0,0,0,0,0,0,0,0,0,0,0,0,0,0,0,0,0,0,0,0,0,0,0,0,0,0,0,0,0,0,0,0,0,0,0,0,0,0,0,0,0,0,0,0,0,0,0,0,0,0,0,0,0,0,0,0,0,0,0,0,0,0,0,0,0,0,0,0,0,0,0,0,0,0,0,0,0,0,0,0,0,0,0,0,0,0,0,0,0,0,0,0,0,0,0,0,0,0,0,0,0,0,0,0,0,0,0,0,0,0,0,0,0,0,0,0,0,0,0,0,0,0,0,0,0,0,0,0,0,0,0]
def aC:List (Nat×D):=[(0,.agg (JO.map λz=>.int .u8 z)),(2,.int .i64 (id (α:=Int) (default:bP)))]
@[simp] def au8:J6 aC 0=some (.agg (JO.map λz=>.int .u8 z)):=rfl
def Zn:FuncId->Option (List AV->Option AV)
 |177=>some (qf Ww)
 |179=>some (qf Oa)
 |222=>some (qf Wv)
 |_=>none
noncomputable def ctx:Ctx:=⟨Tryz.prog,aC,λf=>(oJ f).k,λf=>(oJ f).g,λf r=>(oJ f).m.contains r,λf=>(oJ f).f,λf=>(oJ f).o,Zn,λf=>(oJ f).l,none⟩
@[simp] def au9:ctx.P=Tryz.prog:=rfl
@[simp] def as6:ctx.gl=aC:=rfl
@[simp] def apa(f:FuncId):ctx.rk f=(oJ f).k:=rfl
@[simp] def as7(f:FuncId):ctx.gh f=(oJ f).g:=rfl
@[simp] def as8(f:FuncId):ctx.md f=(oJ f).m.contains:=rfl
@[simp] def as9(f:FuncId):ctx.fp f=(oJ f).f:=rfl
@[simp] def ata(f:FuncId):ctx.fl f=(oJ f).l:=rfl
@[simp] def atb(f:FuncId):ctx.od f=(oJ f).o:=rfl
@[simp] def aU(fn:Func):Code:=fn.body.getD .skip
abbrev RF(n c:Nat)(fn:Func)(rs:List ResultVar):Prop:=∀{args:List AV}{cs:List aE},pT c (oJ n).f args cs=true->ak ctx n args cs=aK ctx n (aU fn) (entry c aC args cs (oJ n).f.sites) (Gs Tryz.prog (oJ n).f cs.length rs)
def bf{n c:Nat}{fn:Func}{rs:List ResultVar}(I:Tryz.prog.funcs[n]?=some fn:=by kernel_rfl)(J:fn.ntmps=c:=by kernel_rfl)(M:fn.results.toList=rs:=by kernel_rfl)(N:fn.body=some (aU fn):=by rfl)(O:zc (aU fn)=false:=by kernel_rfl)(U:ctx.zT n=none:=by rfl)(V:(oJ n).f.split=false:=by rfl):RF n c fn rs:=λh=>YZ rfl U I N O J M rfl V h
def apb:RF 4 30 f4 [.tmp 2]:=bf
def apc:RF 7 18 f7 [.tmp 2]:=bf
def apd:RF 8 129 f8 [.tmp 2]:=bf
def ape:RF 9 58 f9 [.cell 2 30]:=bf
def ak8:RF 10 51 f10 [.cell 2 34,.tmp 3]:=bf
def ak9:RF 15 45 f15 [.tmp 0]:=bf
def Uk:RF 16 15 f16 [.tmp 2]:=bf
def ala:RF 17 68 f17 [.cell 2 34,.tmp 3]:=bf
def alb:RF 18 45 f18 [.tmp 4]:=bf
def alc:RF 21 21 f21 [.tmp 4,.tmp 5]:=bf
def ald:RF 22 59 f22 [.tmp 2]:=bf
def ale:RF 23 24 f23 [.tmp 2]:=bf
def alf:RF 24 258 f24 [.tmp 2]:=bf
def alg:RF 25 25 f25 [.cell 4 59,.tmp 5]:=bf
def alh:RF 26 18 f26 [.tmp 2]:=bf
def ali:RF 27 27 f27 [.cell 6 30]:=bf
def alj:RF 28 51 f28 [.cell 2 68]:=bf
def alk:RF 29 16 f29 []:=bf
def alm:RF 30 8 f30 [.cell 2 25]:=bf
def aaZ:RF 31 16 f31 []:=bf
def Ul:RF 32 43 f32 [.tmp 6]:=bf
def aln:RF 40 55 f40 [.cell 2 68]:=bf
def alo:RF 41 77 f41 [.tmp 2]:=bf
def alp{args:List AV}{cs:List aE}(h:pT 25 (oJ 43).f args cs=true):ak ctx 43 args cs=lB ctx 43 (aU f43) (entry 25 aC args cs (oJ 43).f.sites) [] (Io ctx (oJ 43).f cs.length [.cell 2 25,.cell 3 35,.cell 4 49]):=
 Wj rfl rfl Tryz.func43 rfl (by kernel_rfl) Tryz.ntmps43 (by rw[Tryz.results43]) rfl h
def alq:RF 44 25 f44 [.tmp 4]:=bf
def alr:RF 45 81 f45 [.tmp 2]:=bf
def als:RF 47 136 f47 [.tmp 4,.tmp 5]:=bf
def alu:RF 48 15 f48 [.tmp 2]:=bf
def alv:RF 50 27 f50 [.tmp 2,.tmp 3,.tmp 4]:=bf
def alw:RF 51 126 f51 [.tmp 2]:=bf
def alx:RF 52 25 f52 [.tmp 2]:=bf
def o6:RF 53 242 f53 [.cell 6 30]:=bf
def aly:RF 54 20 f54 [.tmp 2]:=bf
def yB:RF 55 83 f55 []:=bf
def alz:RF 56 48 f56 [.tmp 2]:=bf
def alA:RF 57 13 f57 []:=bf
def alB:RF 71 30 f71 [.tmp 2]:=bf
def alC:RF 76 62 f76 [.tmp 2,.tmp 3,.cell 4 49]:=bf
def alD{args E:List AV}{H:AV}{cs:List aE}(Z:args.getLast?=some H)(y:args.dropLast=E)(h:pT 22 (oJ 77).f E cs=true):JE ctx 77 args cs=ym ctx 77 H (aU f77) (entry 22 aC E cs (oJ 77).f.sites) (L4 Tryz.prog (oJ 77).f cs.length []):=
 abR Tryz.func77 rfl Tryz.ntmps77 (by rw[Tryz.results77]) rfl Z y h
def alE:RF 79 21 f79 [.tmp 2]:=bf
def alF:RF 80 5 f80 [.tmp 2]:=bf
def vL:RF 81 427 f81 [.tmp 4]:=bf
def alG:RF 82 128 f82 [.cell 2 114]:=bf
def alH:RF 86 44 f86 [.tmp 4,.tmp 5]:=bf
def gL:RF 87 155 f87 [.tmp 4,.cell 5 30]:=bf
def alI:RF 88 27 f88 [.cell 6 30]:=bf
def alJ:RF 89 91 f89 [.cell 4 30]:=bf
def alK:RF 90 5 f90 []:=bf
def aa0:RF 91 49 f91 []:=bf
def aa1:RF 92 49 f92 []:=bf
def alL:RF 93 11 f93 []:=bf
def BI:RF 94 141 f94 [.tmp 4]:=bf
def alM:RF 95 22 f95 []:=bf
def alN:RF 96 47 f96 []:=bf
def aa2:RF 97 7 f97 []:=bf
def Um:RF 98 9 f98 [.tmp 4]:=bf
def alO:RF 99 60 f99 []:=bf
def agw:RF 100 105 f100 [.cell 2 114]:=bf
def agx:RF 101 19 f101 [.tmp 2]:=bf
def agy:RF 102 8 f102 [.tmp 2]:=bf
def WX:RF 109 93 f109 [.tmp 6,.tmp 7,.tmp 8]:=bf
def agz:RF 110 17 f110 [.cell 2 181,.tmp 3]:=bf
def agA:RF 123 51 f123 [.tmp 2]:=bf
def agB:RF 124 12 f124 [.tmp 2]:=bf
def agC:RF 125 54 f125 [.cell 4 49,.tmp 5]:=bf
def agD:RF 126 42 f126 []:=bf
def agE:RF 131 41 f131 [.tmp 4]:=bf
def agF:RF 132 37 f132 [.tmp 4,.cell 5 59,.tmp 6]:=bf
def agG:RF 133 17 f133 [.tmp 6]:=bf
def agH:RF 134 71 f134 [.tmp 4]:=bf
def agI:RF 135 32 f135 [.tmp 4]:=bf
def agJ:RF 136 57 f136 [.tmp 6,.cell 7 142,.tmp 8]:=bf
def agK:RF 137 33 f137 [.tmp 2,.tmp 3]:=bf
def WY:RF 138 194 f138 [.tmp 6,.tmp 7,.tmp 8]:=bf
def agL:RF 143 32 f143 [.cell 4 142,.tmp 5]:=bf
def agM:RF 144 24 f144 [.cell 4 30]:=bf
def agN:RF 145 29 f145 [.tmp 4,.cell 5 59,.tmp 6]:=bf
def agO:RF 146 8 f146 []:=bf
def agP:RF 147 9 f147 [.tmp 4]:=bf
def agQ:RF 148 14 f148 []:=bf
def agR:RF 149 49 f149 [.tmp 6,.cell 7 142,.tmp 8]:=bf
def agS:RF 150 19 f150 [.tmp 4]:=bf
def agT:RF 151 38 f151 []:=bf
def WZ:RF 152 42 f152 []:=bf
def agU:RF 153 42 f153 []:=bf
def W0:RF 154 44 f154 []:=bf
def agV:RF 155 41 f155 [.tmp 2,.tmp 3,.tmp 4]:=bf
def agW:RF 156 4 f156 [.tmp 2]:=bf
def agX:RF 157 25 f157 [.cell 6 114]:=bf
def agY:RF 164 34 f164 [.tmp 6,.tmp 7,.tmp 8]:=bf
def agZ:RF 165 33 f165 [.tmp 6,.tmp 7,.tmp 8]:=bf
def ag0:RF 166 64 f166 [.tmp 6,.tmp 7,.tmp 8]:=bf
def ag1:RF 167 43 f167 [.tmp 6,.tmp 7,.tmp 8]:=bf
def ag2:RF 169 19 f169 [.tmp 4]:=bf
def ag3:RF 170 8 f170 [.tmp 3]:=bf
@[simp] def alP{args:List AV}{cs:List aE}:ak ctx 177 args cs=ow (qf Ww) args cs:=Dv rfl rfl
def ag4:RF 178 8 f178 [.tmp 4]:=bf
@[simp] def alQ{args:List AV}{cs:List aE}:ak ctx 179 args cs=ow (qf Oa) args cs:=Dv rfl rfl
def ag5:RF 180 17 f180 [.tmp 2]:=bf
def W1:RF 181 20 f181 [.tmp 4]:=bf
def ag6:RF 182 13 f182 [.tmp 2]:=bf
def ag7:RF 183 6 f183 [.tmp 2]:=bf
def ag8:RF 184 9 f184 [.tmp 2]:=bf
def ag9:RF 185 83 f185 [.tmp 2,.tmp 3,.tmp 4]:=bf
def aha:RF 186 19 f186 [.tmp 2]:=bf
def At:RF 195 172 f195 [.tmp 6,.tmp 7]:=bf
def ahb:RF 196 4 f196 [.tmp 2]:=bf
def ahc:RF 197 15 f197 [.tmp 4,.tmp 5]:=bf
def ahd:RF 198 14 f198 [.tmp 4,.tmp 5]:=bf
def ahe:RF 199 14 f199 [.tmp 4,.tmp 5]:=bf
def ahf:RF 200 38 f200 [.tmp 4,.tmp 5]:=bf
def ahg:RF 201 31 f201 [.tmp 4,.tmp 5]:=bf
def ahh:RF 211 19 f211 [.tmp 4]:=bf
def ahi:RF 212 8 f212 [.tmp 3]:=bf
def ahj:RF 213 23 f213 [.tmp 4,.tmp 5]:=bf
def ahk:RF 214 23 f214 [.tmp 4,.tmp 5]:=bf
def ahl:RF 215 27 f215 [.tmp 4,.tmp 5]:=bf
def ahm:RF 216 19 f216 [.tmp 4,.tmp 5]:=bf
def ahn:RF 217 14 f217 [.tmp 4,.tmp 5]:=bf
@[simp] def alR{args:List AV}{cs:List aE}:ak ctx 222 args cs=ow (qf Wv) args cs:=Dv rfl rfl
def aho:RF 224 9 f224 [.tmp 4]:=bf
def ahp:RF 225 8 f225 [.tmp 3]:=bf
def ahq:RF 226 20 f226 [.tmp 2]:=bf
def ahr:RF 233 38 f233 [.tmp 2,.tmp 3]:=bf
def ahs:RF 234 23 f234 [.cell 4 282]:=bf
def aht:RF 235 18 f235 [.cell 2 282]:=bf
def ahu:RF 236 8 f236 [.cell 2 282]:=bf
def ahv:RF 237 52 f237 [.cell 4 282]:=bf
def ahw:RF 238 52 f238 [.cell 4 282,.cell 5 282]:=bf
def ahx:RF 244 51 f244 [.tmp 4,.tmp 5]:=bf
def ahy:RF 245 10 f245 [.tmp 2]:=bf
def ahz:RF 246 24 f246 [.tmp 4,.tmp 5]:=bf
def ahA:RF 253 19 f253 [.tmp 4]:=bf
def ahB:RF 264 31 f264 [.cell 4 282]:=bf
def ahC:RF 265 28 f265 [.tmp 4]:=bf
def ahD:RF 266 33 f266 [.cell 4 282]:=bf
end Go.Am
end
