/-
  Texts of one proof, one behind the other.
-/
import Derived.Test.YtjhbmdndjhgjlaaGreatDoorA1
import Derived.Test.YtjhbmdndjhgjlaaGreatDoorA2
import Derived.Test.YtjhbmdndjhgjlaaGreatDoorA3
import Derived.Test.YtjhbmdndjhgjlaaGreatDoorProg
import Derived.KernelRfl
set_option linter.all false
section
namespace Go.Am
open Go Go.Proofs
set_option maxRecDepth 20000
set_option maxHeartbeats 4000000
abbrev T2(t:Nat)(k:TK)(s:Nat):Prop:=tk Tryz.prog t=k/\b5 Tryz.prog t=some s
abbrev T3(t:Nat)(k:TK)(s:Nat)(z:List AV):Prop:=tk Tryz.prog t=k/\b5 Tryz.prog t=some s/\j5 Tryz.prog t=some z
abbrev T5(t:Nat)(k:TK)(s:Nat)(z:List AV)(b:Nat)(d:D):Prop:=tk Tryz.prog t=k/\b5 Tryz.prog t=some s/\j5 Tryz.prog t=some z/\oY Tryz.prog t=some b/\gG Tryz.prog t=some d
abbrev T6(t s:Nat)(d:List D)(b:Nat):Prop:=tk Tryz.prog t=.struct/\b5 Tryz.prog t=some s/\j5 Tryz.prog t=some (d.map .d)/\oY Tryz.prog t=some b/\gG Tryz.prog t=some (.agg d)
abbrev TI(t:Nat)(k:IntKind)(b:Nat):Prop:=T5 t (.int k) 1 [.d (.int k 0)] b (.int k 0)
abbrev FF(t i o y:Nat):Prop:=pF Tryz.prog t i=some o/\y9 Tryz.prog t i=some y
@[simp] def V6:T2 1 (.func) 1:=by and_intros<;>kernel_rfl
@[simp] def V7:TI 2 .i64 8:=by and_intros<;>kernel_rfl
@[simp] def V8:TI 3 .i64 8:=by and_intros<;>kernel_rfl
@[simp] def V9:T5 4 (.bool) 1 ([.d (.bool false)]) 1 (.bool false):=by and_intros<;>kernel_rfl
@[simp] def Wa:TI 5 .u8 1:=by and_intros<;>kernel_rfl
@[simp] def Wb:TI 6 .u8 1:=by and_intros<;>kernel_rfl
@[simp] def Wc:T6 7 4 [.int .i64 0,.int .i64 0,.bool false,.int .u8 0] 24/\FF 7 0 0 2/\FF 7 1 1 3/\FF 7 2 2 4/\FF 7 3 3 6/\aK Tryz.prog 7=some [(0,1),(1,1),(2,1),(3,1)]:=by and_intros<;>kernel_rfl
@[simp] def Wd:T6 8 4 [.int .i64 0,.int .i64 0,.bool false,.int .u8 0] 24/\FF 8 0 0 2/\FF 8 1 1 3/\FF 8 2 2 4/\FF 8 3 3 6/\aK Tryz.prog 8=some [(0,1),(1,1),(2,1),(3,1)]:=by and_intros<;>kernel_rfl
@[simp] def We:T5 9 (.str) 1 ([.d (.str [])]) 16 (.str [])/\cV Tryz.prog 9=true:=by and_intros<;>kernel_rfl
@[simp] def UQ:T5 10 (.str) 1 ([.d (.str [])]) 16 (.str [])/\cV Tryz.prog 10=true:=by and_intros<;>kernel_rfl
@[simp] def UR:T5 11 (.str) 1 ([.d (.str [])]) 16 (.str [])/\cV Tryz.prog 11=true:=by and_intros<;>kernel_rfl
@[simp] def US:TI 12 .u64 8:=by and_intros<;>kernel_rfl
@[simp] def UT:T6 13 2 [.str [],.int .u64 0] 24/\FF 13 0 0 9/\FF 13 1 1 12/\aK Tryz.prog 13=some [(0,1),(1,1)]:=by and_intros<;>kernel_rfl
@[simp] def UU:T6 14 2 [.str [],.int .u64 0] 24/\FF 14 0 0 9/\FF 14 1 1 12/\aK Tryz.prog 14=some [(0,1),(1,1)]:=by and_intros<;>kernel_rfl
@[simp] def UW:T2 15 (.ptr 246) 1:=by and_intros<;>kernel_rfl
@[simp] def UX:T2 16 (.ptr 249) 1:=by and_intros<;>kernel_rfl
@[simp] def UY:T2 17 (.ptr 256) 1:=by and_intros<;>kernel_rfl
@[simp] def UZ:T3 18 (.struct) 1 ([.lit (.pointer none)])/\FF 18 0 0 17/\aK Tryz.prog 18=some [(0,1)]:=by and_intros<;>kernel_rfl
@[simp] def U0:T3 19 (.struct) 1 ([.lit (.pointer none)])/\FF 19 0 0 17/\aK Tryz.prog 19=some [(0,1)]:=by and_intros<;>kernel_rfl
@[simp] def U1:T2 20 (.iface) 1:=by and_intros<;>kernel_rfl
@[simp] def U2:TI 21 .i32 4:=by and_intros<;>kernel_rfl
@[simp] def U3:T5 22 (.slice 60) 1 ([.lit (.slice none 0 0)]) 24 (.list [])/\cV Tryz.prog 22=true:=by and_intros<;>kernel_rfl
@[simp] def U4:T5 23 (.slice 46) 1 ([.lit (.slice none 0 0)]) 24 (.list [])/\cV Tryz.prog 23=true:=by and_intros<;>kernel_rfl
@[simp] def U5:T5 24 (.struct) 3 ([.d (.str []),.lit (.slice none 0 0),.lit (.slice none 0 0)]) 64 (.agg ([.str [],.list [],.list []]))/\FF 24 0 0 9/\FF 24 1 1 22/\FF 24 2 2 23/\aK Tryz.prog 24=some [(0,1),(1,1),(2,1)]:=by and_intros<;>kernel_rfl
@[simp] def U6:T5 25 (.struct) 3 ([.d (.str []),.lit (.slice none 0 0),.lit (.slice none 0 0)]) 64 (.agg ([.str [],.list [],.list []]))/\FF 25 0 0 9/\FF 25 1 1 22/\FF 25 2 2 23/\aK Tryz.prog 25=some [(0,1),(1,1),(2,1)]:=by and_intros<;>kernel_rfl
@[simp] def U7:T2 26 (.func) 1:=by and_intros<;>kernel_rfl
@[simp] def U8:T2 27 (.func) 1:=by and_intros<;>kernel_rfl
@[simp] def U9:TI 28 .i64 8:=by and_intros<;>kernel_rfl
@[simp] def Va:T2 30 (.func) 1:=by and_intros<;>kernel_rfl
@[simp] def Vb:T2 32 (.func) 1:=by and_intros<;>kernel_rfl
@[simp] def Vc:T5 33 (.slice 70) 1 ([.lit (.slice none 0 0)]) 24 (.list [])/\cV Tryz.prog 33=true:=by and_intros<;>kernel_rfl
@[simp] def Vd:T5 34 (.struct) 3 ([.lit (.slice none 0 0),.d (.int .i64 0),.d (.int .i64 0)]) 40 (.agg ([.list [],.int .i64 0,.int .i64 0]))/\FF 34 0 0 33/\FF 34 1 1 3/\FF 34 2 2 3/\aK Tryz.prog 34=some [(0,1),(1,1),(2,1)]:=by and_intros<;>kernel_rfl
@[simp] def Ve:T5 35 (.struct) 3 ([.lit (.slice none 0 0),.d (.int .i64 0),.d (.int .i64 0)]) 40 (.agg ([.list [],.int .i64 0,.int .i64 0]))/\FF 35 0 0 33/\FF 35 1 1 3/\FF 35 2 2 3/\aK Tryz.prog 35=some [(0,1),(1,1),(2,1)]:=by and_intros<;>kernel_rfl
@[simp] def Vf:T2 36 (.func) 1:=by and_intros<;>kernel_rfl
@[simp] def Vg:T5 39 (.slice 41) 1 ([.lit (.slice none 0 0)]) 24 (.list [])/\cV Tryz.prog 39=true:=by and_intros<;>kernel_rfl
@[simp] def Vh:T5 40 (.struct) 6 ([.d (.int .i64 0),.d (.int .i64 0),.d (.str []),.d (.str []),.lit (.slice none 0 0),.d (.int .i64 0)]) 80 (.agg ([.int .i64 0,.int .i64 0,.str [],.str [],.list [],.int .i64 0]))/\FF 40 0 0 3/\FF 40 1 1 2/\FF 40 2 2 9/\FF 40 3 3 9/\FF 40 4 4 39/\FF 40 5 5 3/\aK Tryz.prog 40=some [(0,1),(1,1),(2,1),(3,1),(4,1),(5,1)]:=by and_intros<;>kernel_rfl
@[simp] def Vi:T5 41 (.struct) 6 ([.d (.int .i64 0),.d (.int .i64 0),.d (.str []),.d (.str []),.lit (.slice none 0 0),.d (.int .i64 0)]) 80 (.agg ([.int .i64 0,.int .i64 0,.str [],.str [],.list [],.int .i64 0]))/\FF 41 0 0 3/\FF 41 1 1 2/\FF 41 2 2 9/\FF 41 3 3 9/\FF 41 4 4 39/\FF 41 5 5 3/\aK Tryz.prog 41=some [(0,1),(1,1),(2,1),(3,1),(4,1),(5,1)]:=by and_intros<;>kernel_rfl
@[simp] def Vj:T5 42 (.slice 120) 1 ([.lit (.slice none 0 0)]) 24 (.list [])/\cV Tryz.prog 42=true:=by and_intros<;>kernel_rfl
@[simp] def Vk:T5 43 (.slice 9) 1 ([.lit (.slice none 0 0)]) 24 (.list [])/\cV Tryz.prog 43=true:=by and_intros<;>kernel_rfl
@[simp] def Vl:T5 44 (.slice 23) 1 ([.lit (.slice none 0 0)]) 24 (.list [])/\cV Tryz.prog 44=true:=by and_intros<;>kernel_rfl
@[simp] def Vm:T5 45 (.struct) 19 ([.d (.int .i64 0),.d (.str []),.d (.int .i64 0),.d (.int .i64 0),.d (.str []),.d (.str []),.lit (.slice none 0 0),.d (.int .i64 0),.d (.int .i64 0),.d (.int .i64 0),.d (.str []),.d (.str []),.lit (.slice none 0 0),.d (.int .i64 0),.lit (.slice none 0 0),.lit (.slice none 0 0),.lit (.slice none 0 0),.lit (.slice none 0 0),.d (.int .i64 0)]) 288 (.agg ([.int .i64 0,.str [],.int .i64 0,.int .i64 0,.str [],.str [],.list [],.int .i64 0,.int .i64 0,.int .i64 0,.str [],.str [],.list [],.int .i64 0,.list [],.list [],.list [],.list [],.int .i64 0]))/\FF 45 0 0 3/\FF 45 1 1 9/\FF 45 2 2 41/\FF 45 3 8 41/\FF 45 4 14 39/\FF 45 5 15 42/\FF 45 6 16 43/\FF 45 7 17 44/\FF 45 8 18 3/\aK Tryz.prog 45=some [(0,1),(1,1),(2,6),(8,6),(14,1),(15,1),(16,1),(17,1),(18,1)]:=by and_intros<;>kernel_rfl
@[simp] def Vn:T5 46 (.struct) 19 ([.d (.int .i64 0),.d (.str []),.d (.int .i64 0),.d (.int .i64 0),.d (.str []),.d (.str []),.lit (.slice none 0 0),.d (.int .i64 0),.d (.int .i64 0),.d (.int .i64 0),.d (.str []),.d (.str []),.lit (.slice none 0 0),.d (.int .i64 0),.lit (.slice none 0 0),.lit (.slice none 0 0),.lit (.slice none 0 0),.lit (.slice none 0 0),.d (.int .i64 0)]) 288 (.agg ([.int .i64 0,.str [],.int .i64 0,.int .i64 0,.str [],.str [],.list [],.int .i64 0,.int .i64 0,.int .i64 0,.str [],.str [],.list [],.int .i64 0,.list [],.list [],.list [],.list [],.int .i64 0]))/\FF 46 0 0 3/\FF 46 1 1 9/\FF 46 2 2 41/\FF 46 3 8 41/\FF 46 4 14 39/\FF 46 5 15 42/\FF 46 6 16 43/\FF 46 7 17 44/\FF 46 8 18 3/\aK Tryz.prog 46=some [(0,1),(1,1),(2,6),(8,6),(14,1),(15,1),(16,1),(17,1),(18,1)]:=by and_intros<;>kernel_rfl
@[simp] def Vo:T2 48 (.func) 1:=by and_intros<;>kernel_rfl
@[simp] def Vp:T2 50 (.ptr 53) 1:=by and_intros<;>kernel_rfl
@[simp] def Vq:T5 51 (.slice 5) 1 ([.lit (.slice none 0 0)]) 24 (.list [])/\cV Tryz.prog 51=true:=by and_intros<;>kernel_rfl
@[simp] def Vs:T3 52 (.struct) 2 ([.lit (.pointer none),.lit (.slice none 0 0)])/\FF 52 0 0 50/\FF 52 1 1 51/\aK Tryz.prog 52=some [(0,1),(1,1)]:=by and_intros<;>kernel_rfl
@[simp] def Vt:T3 53 (.struct) 2 ([.lit (.pointer none),.lit (.slice none 0 0)])/\FF 53 0 0 50/\FF 53 1 1 51/\aK Tryz.prog 53=some [(0,1),(1,1)]:=by and_intros<;>kernel_rfl
@[simp] def Vu:T2 57 (.func) 1:=by and_intros<;>kernel_rfl
@[simp] def Vv:T2 58 (.func) 1:=by and_intros<;>kernel_rfl
@[simp] def Vw:T6 59 8 [.str [],.int .i64 0,.int .i64 0,.bool false,.int .i64 0,.int .i64 0,.int .i64 0,.int .i64 0] 72/\FF 59 0 0 9/\FF 59 1 1 3/\FF 59 2 2 3/\FF 59 3 3 4/\FF 59 4 4 2/\FF 59 5 5 2/\FF 59 6 6 2/\FF 59 7 7 3/\aK Tryz.prog 59=some [(0,1),(1,1),(2,1),(3,1),(4,1),(5,1),(6,1),(7,1)]/\bq Tryz.prog 59=some [.str,.int .i64,.int .i64,.bool,.int .i64,.int .i64,.int .i64,.int .i64]:=by and_intros<;>kernel_rfl
@[simp] def Vx:T6 60 8 [.str [],.int .i64 0,.int .i64 0,.bool false,.int .i64 0,.int .i64 0,.int .i64 0,.int .i64 0] 72/\FF 60 0 0 9/\FF 60 1 1 3/\FF 60 2 2 3/\FF 60 3 3 4/\FF 60 4 4 2/\FF 60 5 5 2/\FF 60 6 6 2/\FF 60 7 7 3/\aK Tryz.prog 60=some [(0,1),(1,1),(2,1),(3,1),(4,1),(5,1),(6,1),(7,1)]/\bq Tryz.prog 60=some [.str,.int .i64,.int .i64,.bool,.int .i64,.int .i64,.int .i64,.int .i64]:=by and_intros<;>kernel_rfl
@[simp] def Vy:T2 63 (.func) 1:=by and_intros<;>kernel_rfl
@[simp] def Vz:T2 64 (.func) 1:=by and_intros<;>kernel_rfl
@[simp] def VA:T5 65 (.arr 3 9) 3 ([.d (.str []),.d (.str []),.d (.str [])]) 48 (.agg ([.str [],.str [],.str []]))/\aK Tryz.prog 65=none:=by and_intros<;>kernel_rfl
@[simp] def VB:T2 66 (.func) 1:=by and_intros<;>kernel_rfl
@[simp] def VC:T6 69 5 [.int .i64 0,.int .i64 0,.int .i64 0,.int .i64 0,.int .i64 0] 40/\FF 69 0 0 3/\FF 69 1 1 3/\FF 69 2 2 3/\FF 69 3 3 2/\FF 69 4 4 2/\aK Tryz.prog 69=some [(0,1),(1,1),(2,1),(3,1),(4,1)]/\bq Tryz.prog 69=some [.int .i64,.int .i64,.int .i64,.int .i64,.int .i64]:=by and_intros<;>kernel_rfl
@[simp] def VD:T6 70 5 [.int .i64 0,.int .i64 0,.int .i64 0,.int .i64 0,.int .i64 0] 40/\FF 70 0 0 3/\FF 70 1 1 3/\FF 70 2 2 3/\FF 70 3 3 2/\FF 70 4 4 2/\aK Tryz.prog 70=some [(0,1),(1,1),(2,1),(3,1),(4,1)]/\bq Tryz.prog 70=some [.int .i64,.int .i64,.int .i64,.int .i64,.int .i64]:=by and_intros<;>kernel_rfl
@[simp] def VE:T2 73 (.iface) 1:=by and_intros<;>kernel_rfl
@[simp] def VF:T2 74 (.iface) 1:=by and_intros<;>kernel_rfl
@[simp] def VG:T2 78 (.func) 1:=by and_intros<;>kernel_rfl
@[simp] def VH:T2 88 (.ptr 5) 1:=by and_intros<;>kernel_rfl
@[simp] def VI:TI 92 .u64 8:=by and_intros<;>kernel_rfl
@[simp] def VJ:T5 93 (.slice 96) 1 ([.lit (.slice none 0 0)]) 24 (.list [])/\cV Tryz.prog 93=true:=by and_intros<;>kernel_rfl
@[simp] def VK:T2 94 (.func) 1:=by and_intros<;>kernel_rfl
@[simp] def VL:T5 95 (.struct) 4 ([.d (.int .i64 0),.d (.str []),.d (.str []),.lit (.slice none 0 0)]) 64 (.agg ([.int .i64 0,.str [],.str [],.list []]))/\FF 95 0 0 3/\FF 95 1 1 9/\FF 95 2 2 9/\FF 95 3 3 43/\aK Tryz.prog 95=some [(0,1),(1,1),(2,1),(3,1)]:=by and_intros<;>kernel_rfl
@[simp] def VM:T5 96 (.struct) 4 ([.d (.int .i64 0),.d (.str []),.d (.str []),.lit (.slice none 0 0)]) 64 (.agg ([.int .i64 0,.str [],.str [],.list []]))/\FF 96 0 0 3/\FF 96 1 1 9/\FF 96 2 2 9/\FF 96 3 3 43/\aK Tryz.prog 96=some [(0,1),(1,1),(2,1),(3,1)]:=by and_intros<;>kernel_rfl
@[simp] def VN:T2 97 (.func) 1:=by and_intros<;>kernel_rfl
@[simp] def VO:T2 98 (.func) 1:=by and_intros<;>kernel_rfl
@[simp] def SG:T2 100 (.func) 1:=by and_intros<;>kernel_rfl
@[simp] def SH:T2 102 (.ptr 35) 1:=by and_intros<;>kernel_rfl
@[simp] def SI:T2 105 (.ptr 108) 1:=by and_intros<;>kernel_rfl
@[simp] def SJ:T5 106 (.slice 4) 1 ([.lit (.slice none 0 0)]) 24 (.list [])/\cV Tryz.prog 106=true:=by and_intros<;>kernel_rfl
@[simp] def SK:T5 107 (.struct) 5 ([.lit (.slice none 0 0),.d (.int .i64 0),.d (.int .i64 0),.lit (.slice none 0 0),.lit (.slice none 0 0)]) 88 (.agg ([.list [],.int .i64 0,.int .i64 0,.list [],.list []]))/\FF 107 0 0 35/\FF 107 1 3 106/\FF 107 2 4 106/\aK Tryz.prog 107=some [(0,3),(3,1),(4,1)]:=by and_intros<;>kernel_rfl
@[simp] def SL:T5 108 (.struct) 5 ([.lit (.slice none 0 0),.d (.int .i64 0),.d (.int .i64 0),.lit (.slice none 0 0),.lit (.slice none 0 0)]) 88 (.agg ([.list [],.int .i64 0,.int .i64 0,.list [],.list []]))/\FF 108 0 0 35/\FF 108 1 3 106/\FF 108 2 4 106/\aK Tryz.prog 108=some [(0,3),(3,1),(4,1)]:=by and_intros<;>kernel_rfl
@[simp] def SM:T6 110 2 [.str [],.str []] 32/\FF 110 0 0 9/\FF 110 1 1 9/\aK Tryz.prog 110=some [(0,1),(1,1)]/\bq Tryz.prog 110=some [.str,.str]:=by and_intros<;>kernel_rfl
@[simp] def SN:T5 111 (.slice 110) 1 ([.lit (.slice none 0 0)]) 24 (.list [])/\cV Tryz.prog 111=true:=by and_intros<;>kernel_rfl
@[simp] def SO:T5 115 (.arr 70 4) 70 (List.replicate 70 (.d (.bool false))) 70 (.agg (List.replicate 70 (.bool false)))/\aK Tryz.prog 115=none:=by and_intros<;>kernel_rfl
@[simp] def SP:T5 120 (.slice 2) 1 ([.lit (.slice none 0 0)]) 24 (.list [])/\cV Tryz.prog 120=true:=by and_intros<;>kernel_rfl
@[simp] def SQ:T6 122 4 [.str [],.int .i64 0,.int .i64 0,.int .i64 0] 40/\FF 122 0 0 9/\FF 122 1 1 3/\FF 122 2 2 3/\FF 122 3 3 3/\aK Tryz.prog 122=some [(0,1),(1,1),(2,1),(3,1)]/\bq Tryz.prog 122=some [.str,.int .i64,.int .i64,.int .i64]:=by and_intros<;>kernel_rfl
@[simp] def SR:T2 128 (.func) 1:=by and_intros<;>kernel_rfl
@[simp] def SS:T2 133 (.func) 1:=by and_intros<;>kernel_rfl
@[simp] def SU:T5 136 (.slice 138) 1 ([.lit (.slice none 0 0)]) 24 (.list [])/\cV Tryz.prog 136=true:=by and_intros<;>kernel_rfl
@[simp] def SV:T6 137 2 [.int .i64 0,.int .i64 0] 16/\FF 137 0 0 3/\FF 137 1 1 3/\aK Tryz.prog 137=some [(0,1),(1,1)]/\bq Tryz.prog 137=some [.int .i64,.int .i64]:=by and_intros<;>kernel_rfl
@[simp] def SW:T6 138 2 [.int .i64 0,.int .i64 0] 16/\FF 138 0 0 3/\FF 138 1 1 3/\aK Tryz.prog 138=some [(0,1),(1,1)]/\bq Tryz.prog 138=some [.int .i64,.int .i64]:=by and_intros<;>kernel_rfl
@[simp] def SX:T2 142 (.ptr 70) 1:=by and_intros<;>kernel_rfl
@[simp] def SY:T5 145 (.slice 3) 1 ([.lit (.slice none 0 0)]) 24 (.list [])/\cV Tryz.prog 145=true:=by and_intros<;>kernel_rfl
@[simp] def SZ:T6 150 5 [.int .i64 0,.str [],.str [],.str [],.int .i64 0] 64/\FF 150 0 0 3/\FF 150 1 1 9/\FF 150 2 2 9/\FF 150 3 3 9/\FF 150 4 4 3/\aK Tryz.prog 150=some [(0,1),(1,1),(2,1),(3,1),(4,1)]/\bq Tryz.prog 150=some [.int .i64,.str,.str,.str,.int .i64]:=by and_intros<;>kernel_rfl
@[simp] def S5:T6 151 5 [.int .i64 0,.str [],.str [],.str [],.int .i64 0] 64/\FF 151 0 0 3/\FF 151 1 1 9/\FF 151 2 2 9/\FF 151 3 3 9/\FF 151 4 4 3/\aK Tryz.prog 151=some [(0,1),(1,1),(2,1),(3,1),(4,1)]/\bq Tryz.prog 151=some [.int .i64,.str,.str,.str,.int .i64]:=by and_intros<;>kernel_rfl
@[simp] def S6:T5 155 (.slice 188) 1 ([.lit (.slice none 0 0)]) 24 (.list [])/\cV Tryz.prog 155=true:=by and_intros<;>kernel_rfl
@[simp] def S7:T2 160 (.func) 1:=by and_intros<;>kernel_rfl
@[simp] def S8:T5 177 (.arr 24 5) 24 ([.d (.int .u8 0),.d (.int .u8 0),.d (.int .u8 0),.d (.int .u8 0),.d (.int .u8 0),.d (.int .u8 0),.d (.int .u8 0),.d (.int .u8 0),.d (.int .u8 0),.d (.int .u8 0),.d (.int .u8 0),.d (.int .u8 0),.d (.int .u8 0),.d (.int .u8 0),.d (.int .u8 0),.d (.int .u8 0),.d (.int .u8 0),.d (.int .u8 0),.d (.int .u8 0),.d (.int .u8 0),.d (.int .u8 0),.d (.int .u8 0),.d (.int .u8 0),.d (.int .u8 0)]) 24 (.agg ([.int .u8 0,.int .u8 0,.int .u8 0,.int .u8 0,.int .u8 0,.int .u8 0,.int .u8 0,.int .u8 0,.int .u8 0,.int .u8 0,.int .u8 0,.int .u8 0,.int .u8 0,.int .u8 0,.int .u8 0,.int .u8 0,.int .u8 0,.int .u8 0,.int .u8 0,.int .u8 0,.int .u8 0,.int .u8 0,.int .u8 0,.int .u8 0]))/\aK Tryz.prog 177=none:=by and_intros<;>kernel_rfl
@[simp] def S9:T5 182 (.arr 256 5) 256 (List.replicate 256 (.d (.int .u8 0))) 256 (.agg (List.replicate 256 (.int .u8 0)))/\aK Tryz.prog 182=none:=by and_intros<;>kernel_rfl
@[simp] def Ta:T5 183 (.slice 151) 1 ([.lit (.slice none 0 0)]) 24 (.list [])/\cV Tryz.prog 183=true:=by and_intros<;>kernel_rfl
@[simp] def Tc:T2 186 (.func) 1:=by and_intros<;>kernel_rfl
@[simp] def Td:T6 187 3 [.str [],.int .i64 0,.bool false] 32/\FF 187 0 0 9/\FF 187 1 1 3/\FF 187 2 2 4/\aK Tryz.prog 187=some [(0,1),(1,1),(2,1)]/\bq Tryz.prog 187=some [.str,.int .i64,.bool]:=by and_intros<;>kernel_rfl
@[simp] def Tf:T6 188 3 [.str [],.int .i64 0,.bool false] 32/\FF 188 0 0 9/\FF 188 1 1 3/\FF 188 2 2 4/\aK Tryz.prog 188=some [(0,1),(1,1),(2,1)]/\bq Tryz.prog 188=some [.str,.int .i64,.bool]:=by and_intros<;>kernel_rfl
@[simp] def Tg:T6 190 2 [.str [],.int .i64 0] 24/\FF 190 0 0 9/\FF 190 1 1 2/\aK Tryz.prog 190=some [(0,1),(1,1)]/\bq Tryz.prog 190=some [.str,.int .i64]:=by and_intros<;>kernel_rfl
@[simp] def Th:T5 191 (.slice 190) 1 ([.lit (.slice none 0 0)]) 24 (.list [])/\cV Tryz.prog 191=true:=by and_intros<;>kernel_rfl
@[simp] def Ti:T5 200 (.arr 20 92) 20 ([.d (.int .u64 0),.d (.int .u64 0),.d (.int .u64 0),.d (.int .u64 0),.d (.int .u64 0),.d (.int .u64 0),.d (.int .u64 0),.d (.int .u64 0),.d (.int .u64 0),.d (.int .u64 0),.d (.int .u64 0),.d (.int .u64 0),.d (.int .u64 0),.d (.int .u64 0),.d (.int .u64 0),.d (.int .u64 0),.d (.int .u64 0),.d (.int .u64 0),.d (.int .u64 0),.d (.int .u64 0)]) 160 (.agg ([.int .u64 0,.int .u64 0,.int .u64 0,.int .u64 0,.int .u64 0,.int .u64 0,.int .u64 0,.int .u64 0,.int .u64 0,.int .u64 0,.int .u64 0,.int .u64 0,.int .u64 0,.int .u64 0,.int .u64 0,.int .u64 0,.int .u64 0,.int .u64 0,.int .u64 0,.int .u64 0]))/\aK Tryz.prog 200=none:=by and_intros<;>kernel_rfl
@[simp] def Tj:TI 201 .u32 4:=by and_intros<;>kernel_rfl
@[simp] def Tk:T5 202 (.arr 65 5) 65 (List.replicate 65 (.d (.int .u8 0))) 65 (.agg (List.replicate 65 (.int .u8 0)))/\aK Tryz.prog 202=none:=by and_intros<;>kernel_rfl
@[simp] def Tl:TI 204 .u64 8:=by and_intros<;>kernel_rfl
@[simp] def Tm:T2 207 (.ptr 215) 1:=by and_intros<;>kernel_rfl
@[simp] def Tn:T5 212 (.slice 218) 1 ([.lit (.slice none 0 0)]) 24 (.list [])/\cV Tryz.prog 212=true:=by and_intros<;>kernel_rfl
@[simp] def To:T5 213 (.slice 221) 1 ([.lit (.slice none 0 0)]) 24 (.list [])/\cV Tryz.prog 213=true:=by and_intros<;>kernel_rfl
@[simp] def Tp:T5 214 (.struct) 3 ([.lit (.slice none 0 0),.lit (.slice none 0 0),.d (.int .i64 0)]) 56 (.agg ([.list [],.list [],.int .i64 0]))/\FF 214 0 0 212/\FF 214 1 1 213/\FF 214 2 2 3/\aK Tryz.prog 214=some [(0,1),(1,1),(2,1)]:=by and_intros<;>kernel_rfl
@[simp] def Tq:T5 215 (.struct) 3 ([.lit (.slice none 0 0),.lit (.slice none 0 0),.d (.int .i64 0)]) 56 (.agg ([.list [],.list [],.int .i64 0]))/\FF 215 0 0 212/\FF 215 1 1 213/\FF 215 2 2 3/\aK Tryz.prog 215=some [(0,1),(1,1),(2,1)]:=by and_intros<;>kernel_rfl
@[simp] def Tr:TI 216 .u16 2:=by and_intros<;>kernel_rfl
@[simp] def Ts:T6 217 3 [.int .u16 0,.int .u16 0,.int .u16 0] 6/\FF 217 0 0 216/\FF 217 1 1 216/\FF 217 2 2 216/\aK Tryz.prog 217=some [(0,1),(1,1),(2,1)]/\bq Tryz.prog 217=some [.int .u16,.int .u16,.int .u16]:=by and_intros<;>kernel_rfl
@[simp] def Tt:T6 218 3 [.int .u16 0,.int .u16 0,.int .u16 0] 6/\FF 218 0 0 216/\FF 218 1 1 216/\FF 218 2 2 216/\aK Tryz.prog 218=some [(0,1),(1,1),(2,1)]/\bq Tryz.prog 218=some [.int .u16,.int .u16,.int .u16]:=by and_intros<;>kernel_rfl
@[simp] def Tu:T6 220 3 [.int .u32 0,.int .u32 0,.int .u32 0] 12/\FF 220 0 0 201/\FF 220 1 1 201/\FF 220 2 2 201/\aK Tryz.prog 220=some [(0,1),(1,1),(2,1)]/\bq Tryz.prog 220=some [.int .u32,.int .u32,.int .u32]:=by and_intros<;>kernel_rfl
@[simp] def Tv:T6 221 3 [.int .u32 0,.int .u32 0,.int .u32 0] 12/\FF 221 0 0 201/\FF 221 1 1 201/\FF 221 2 2 201/\aK Tryz.prog 221=some [(0,1),(1,1),(2,1)]/\bq Tryz.prog 221=some [.int .u32,.int .u32,.int .u32]:=by and_intros<;>kernel_rfl
@[simp] def Tw:T6 225 2 [.int .u8 0,.int .u8 0] 2/\FF 225 0 0 5/\FF 225 1 1 5/\aK Tryz.prog 225=some [(0,1),(1,1)]/\bq Tryz.prog 225=some [.int .u8,.int .u8]:=by and_intros<;>kernel_rfl
@[simp] def Ty:T6 226 2 [.int .u8 0,.int .u8 0] 2/\FF 226 0 0 5/\FF 226 1 1 5/\aK Tryz.prog 226=some [(0,1),(1,1)]/\bq Tryz.prog 226=some [.int .u8,.int .u8]:=by and_intros<;>kernel_rfl
@[simp] def Tz:T5 227 (.arr 16 226) 32 ([.d (.int .u8 0),.d (.int .u8 0),.d (.int .u8 0),.d (.int .u8 0),.d (.int .u8 0),.d (.int .u8 0),.d (.int .u8 0),.d (.int .u8 0),.d (.int .u8 0),.d (.int .u8 0),.d (.int .u8 0),.d (.int .u8 0),.d (.int .u8 0),.d (.int .u8 0),.d (.int .u8 0),.d (.int .u8 0),.d (.int .u8 0),.d (.int .u8 0),.d (.int .u8 0),.d (.int .u8 0),.d (.int .u8 0),.d (.int .u8 0),.d (.int .u8 0),.d (.int .u8 0),.d (.int .u8 0),.d (.int .u8 0),.d (.int .u8 0),.d (.int .u8 0),.d (.int .u8 0),.d (.int .u8 0),.d (.int .u8 0),.d (.int .u8 0)]) 32 (.agg ([.int .u8 0,.int .u8 0,.int .u8 0,.int .u8 0,.int .u8 0,.int .u8 0,.int .u8 0,.int .u8 0,.int .u8 0,.int .u8 0,.int .u8 0,.int .u8 0,.int .u8 0,.int .u8 0,.int .u8 0,.int .u8 0,.int .u8 0,.int .u8 0,.int .u8 0,.int .u8 0,.int .u8 0,.int .u8 0,.int .u8 0,.int .u8 0,.int .u8 0,.int .u8 0,.int .u8 0,.int .u8 0,.int .u8 0,.int .u8 0,.int .u8 0,.int .u8 0]))/\aK Tryz.prog 227=none:=by and_intros<;>kernel_rfl
@[simp] def TA:TI 228 .i64 8:=by and_intros<;>kernel_rfl
@[simp] def TB:T2 231 (.ptr 240) 1:=by and_intros<;>kernel_rfl
@[simp] def TC:T5 234 (.arr 32 5) 32 ([.d (.int .u8 0),.d (.int .u8 0),.d (.int .u8 0),.d (.int .u8 0),.d (.int .u8 0),.d (.int .u8 0),.d (.int .u8 0),.d (.int .u8 0),.d (.int .u8 0),.d (.int .u8 0),.d (.int .u8 0),.d (.int .u8 0),.d (.int .u8 0),.d (.int .u8 0),.d (.int .u8 0),.d (.int .u8 0),.d (.int .u8 0),.d (.int .u8 0),.d (.int .u8 0),.d (.int .u8 0),.d (.int .u8 0),.d (.int .u8 0),.d (.int .u8 0),.d (.int .u8 0),.d (.int .u8 0),.d (.int .u8 0),.d (.int .u8 0),.d (.int .u8 0),.d (.int .u8 0),.d (.int .u8 0),.d (.int .u8 0),.d (.int .u8 0)]) 32 (.agg ([.int .u8 0,.int .u8 0,.int .u8 0,.int .u8 0,.int .u8 0,.int .u8 0,.int .u8 0,.int .u8 0,.int .u8 0,.int .u8 0,.int .u8 0,.int .u8 0,.int .u8 0,.int .u8 0,.int .u8 0,.int .u8 0,.int .u8 0,.int .u8 0,.int .u8 0,.int .u8 0,.int .u8 0,.int .u8 0,.int .u8 0,.int .u8 0,.int .u8 0,.int .u8 0,.int .u8 0,.int .u8 0,.int .u8 0,.int .u8 0,.int .u8 0,.int .u8 0]))/\aK Tryz.prog 234=none:=by and_intros<;>kernel_rfl
@[simp] def TD:T5 235 (.arr 64 5) 64 (List.replicate 64 (.d (.int .u8 0))) 64 (.agg (List.replicate 64 (.int .u8 0)))/\aK Tryz.prog 235=none:=by and_intros<;>kernel_rfl
@[simp] def TE:T2 236 (.ptr 218) 1:=by and_intros<;>kernel_rfl
@[simp] def TF:T2 237 (.ptr 221) 1:=by and_intros<;>kernel_rfl
@[simp] def TG:T3 239 (.struct) 3 ([.d (.str []),.d (.str []),.lit .nilIface])/\FF 239 0 0 9/\FF 239 1 1 9/\FF 239 2 2 74/\aK Tryz.prog 239=some [(0,1),(1,1),(2,1)]:=by and_intros<;>kernel_rfl
@[simp] def TH:T3 240 (.struct) 3 ([.d (.str []),.d (.str []),.lit .nilIface])/\FF 240 0 0 9/\FF 240 1 1 9/\FF 240 2 2 74/\aK Tryz.prog 240=some [(0,1),(1,1),(2,1)]:=by and_intros<;>kernel_rfl
@[simp] def TJ:T2 242 (.ptr 244) 1:=by and_intros<;>kernel_rfl
@[simp] def TL:T6 243 1 [.str []] 16/\FF 243 0 0 9/\aK Tryz.prog 243=some [(0,1)]/\bq Tryz.prog 243=some [.str]:=by and_intros<;>kernel_rfl
@[simp] def TM:T6 244 1 [.str []] 16/\FF 244 0 0 9/\aK Tryz.prog 244=some [(0,1)]/\bq Tryz.prog 244=some [.str]:=by and_intros<;>kernel_rfl
@[simp] def TN:T3 245 (.struct) 4 ([.lit (.pointer none),.lit (.pointer none),.lit (.pointer none),.d (.str [])])/\FF 245 0 0 17/\FF 245 1 1 17/\FF 245 2 2 17/\FF 245 3 3 9/\aK Tryz.prog 245=some [(0,1),(1,1),(2,1),(3,1)]:=by and_intros<;>kernel_rfl
@[simp] def TO:T3 246 (.struct) 4 ([.lit (.pointer none),.lit (.pointer none),.lit (.pointer none),.d (.str [])])/\FF 246 0 0 17/\FF 246 1 1 17/\FF 246 2 2 17/\FF 246 3 3 9/\aK Tryz.prog 246=some [(0,1),(1,1),(2,1),(3,1)]:=by and_intros<;>kernel_rfl
@[simp] def TP:T5 247 (.arr 0 16) 0 ([]) 0 (.agg ([]))/\aK Tryz.prog 247=none:=by and_intros<;>kernel_rfl
@[simp] def TQ:T6 248 0 [] 0/\aK Tryz.prog 248=some [(0,0)]:=by and_intros<;>kernel_rfl
@[simp] def TR:T6 249 0 [] 0/\aK Tryz.prog 249=some [(0,0)]:=by and_intros<;>kernel_rfl
@[simp] def TS:TI 250 .u8 1:=by and_intros<;>kernel_rfl
@[simp] def TU:TI 251 .u8 1:=by and_intros<;>kernel_rfl
@[simp] def TV:T2 252 (.func) 1:=by and_intros<;>kernel_rfl
@[simp] def TW:TI 253 .i32 4:=by and_intros<;>kernel_rfl
@[simp] def TX:TI 254 .i32 4:=by and_intros<;>kernel_rfl
@[simp] def TY:T3 255 (.struct) 11 ([.d (.int .u64 0),.d (.int .u64 0),.d (.int .u32 0),.d (.int .u8 0),.d (.int .u8 0),.d (.int .u8 0),.d (.int .u8 0),.lit .nilFunc,.lit (.pointer none),.d (.int .i32 0),.d (.int .i32 0)])/\FF 255 0 0 12/\FF 255 1 1 12/\FF 255 2 2 201/\FF 255 3 3 250/\FF 255 4 4 5/\FF 255 5 5 5/\FF 255 6 6 251/\FF 255 7 7 252/\FF 255 8 8 88/\FF 255 9 9 253/\FF 255 10 10 254/\aK Tryz.prog 255=some [(0,1),(1,1),(2,1),(3,1),(4,1),(5,1),(6,1),(7,1),(8,1),(9,1),(10,1)]:=by and_intros<;>kernel_rfl
@[simp] def TZ:T3 256 (.struct) 11 ([.d (.int .u64 0),.d (.int .u64 0),.d (.int .u32 0),.d (.int .u8 0),.d (.int .u8 0),.d (.int .u8 0),.d (.int .u8 0),.lit .nilFunc,.lit (.pointer none),.d (.int .i32 0),.d (.int .i32 0)])/\FF 256 0 0 12/\FF 256 1 1 12/\FF 256 2 2 201/\FF 256 3 3 250/\FF 256 4 4 5/\FF 256 5 5 5/\FF 256 6 6 251/\FF 256 7 7 252/\FF 256 8 8 88/\FF 256 9 9 253/\FF 256 10 10 254/\aK Tryz.prog 256=some [(0,1),(1,1),(2,1),(3,1),(4,1),(5,1),(6,1),(7,1),(8,1),(9,1),(10,1)]:=by and_intros<;>kernel_rfl
structure Tb where
 k:Nat->List Nat
 g:Nat->List Gh
 m:List Nat
 f:dc
 l:Nat->List (Nat×Nat)
 o:Nat->List (List Nat)
def rr:List Nat:=List.range 99
abbrev zk:Nat->List Nat:=λ_=>[]
abbrev za:Nat->List Nat:=λ_=>[0,0]
abbrev zg:Nat->List Gh:=λ_=>[]
abbrev zf:dc:=⟨[],false,[0],[],false⟩
abbrev zo:Nat->List (List Nat):=λ_=>[]
abbrev zl:Nat->List (Nat×Nat):=λ_=>[]
abbrev zt:Tb:=⟨zk,zg,[],zf,zl,zo⟩
abbrev fs(l:List Nat):dc:=⟨[],false,l,[],false⟩
@[simp] def Lu:Nat->List Nat
 |0=>[1]
 |1=>[1,11]
 |2|10|13=>[2,3]
 |3|4=>[1,4]
 |5|11|12=>[4,23,24,25]
 |6=>[4,23,24,25,26]
 |7=>[4,6,23,24,25]
 |8=>[4,6,7,8,23,24,25]
 |9=>[4,7,23,24,25,36]
 |_=>[]
@[simp] def PO:Nat->List (List Nat)
 |4=>[rr,rr,[4,5],rr,rr,rr,[3],rr,rr,[]]
 |_=>[]
@[simp] def PQ:Nat->List Gh
 |3=>[.lu 300 1 310 1000005]
 |_=>[]
@[simp] def Lv:Nat->List Nat
 |0=>[1]
 |1=>[1,10]
 |2|10|12=>[2,3]
 |3=>[1,4]
 |4|6|11=>[1,4,5]
 |5=>[1,4,5,25]
 |7=>[1,4,5,6]
 |8=>[1,4,5,6,7]
 |9=>[1,4,5,6,107]
 |_=>[]
@[simp] def PT:Nat->List (List Nat)
 |3=>[rr,rr,[5,6],rr,rr,rr,rr,[3,4],rr,rr,rr]
 |_=>[]
@[simp] def PU:Nat->List (List Nat)
 |1=>[rr,rr,rr,rr,[5,6,7,8,9],rr,rr,rr,rr,rr,[],rr]
 |_=>[]
@[simp] def Lw:Nat->List Nat
 |0=>[0]
 |1=>[0,3]
 |2|4=>[0,3,4]
 |3=>[0,3,4,9]
 |5=>[0,3,4,18]
 |6|7=>[2]
 |_=>[]
@[simp] def LA:Nat->List Nat
 |0=>[0,2]
 |1=>[0,2,14]
 |2|11|15|18|20|24|26|27=>[2,3,4]
 |3=>[0,2,5]
 |4=>[0,2,5,6]
 |5|21|22=>[2,5,6,17,18,19]
 |6=>[2,5,6,17,18,19,20]
 |7=>[2,5,6,7,8,17,18,19]
 |8|13=>[2,5,6,7,9,17,18,19]
 |9=>[2,5,6,7,9,17,18,19,35]
 |10=>[2,5,6,7,9,17,18,19,41]
 |12=>[2,5,6,7,9,17,18,19,46]
 |14=>[2,5,6,7,17,18,19,49]
 |16=>[2,5,6,7,10,11,17,18,19]
 |17=>[2,5,6,7,10,11,17,18,19,59]
 |19=>[2,5,6,7,10,17,18,19,67]
 |23=>[2,5,78]
 |25=>[2,5,82]
 |_=>[]
@[simp] def PV:Nat->List Gh
 |3=>[.lu 350 0 351 5]
 |_=>[]
@[simp] def PW:Nat->List (List Nat)
 |1=>[rr,rr,rr,rr,[0],rr,[],rr]
 |_=>[]
@[simp] def PX:Nat->List Gh
 |1=>[.lu 600 3 601 1]
 |_=>[]
@[simp] def LB:Nat->List Nat
 |0=>[1,3]
 |1=>[1,3,4]
 |2=>[1,3,4,5,6]
 |3=>[1,3,4,5,6,7]
 |4|9|10|12|13|15|16|18|19|22|23|24|26|27=>[1,3,5,6,7,23]
 |5=>[1,3,5,6,7,23,24,25]
 |6=>[1,3,5,6,7,9,23]
 |7=>[1,3,5,6,7,23,27]
 |8=>[1,3,5,6,7,23,27,28]
 |11=>[1,3,5,6,7,23,27,38]
 |14=>[1,3,5,6,7,23,27,48]
 |17=>[1,3,5,6,7,23,27,58]
 |20=>[1,3,5,6,7,23,27,68]
 |21=>[1,3,5,6,7,23,72]
 |25=>[1,3,5,6,7,23,88]
 |28=>[2,3]
 |_=>[]
@[simp] def PY:Nat->List (List Nat)
 |1=>[[1,2,3,6],rr,rr,rr,rr,rr,[0,1,2,3,4,5],[]]
 |2=>[rr,rr,rr,rr,rr,[0,1,2,3,4],rr,[]]
 |23=>[rr,[0,2,3,4],rr,rr,rr,rr,rr,rr,rr,rr]
 |24=>[rr,rr,rr,rr,rr,[2,3],rr,[]]
 |28=>[rr,rr,rr,rr,rr,[]]
 |_=>[]
@[simp] def LC:Nat->List Nat
 |0=>[1]
 |1=>[1,3]
 |2=>[1,3,55]
 |3|9|19|22|28|33|34=>[2]
 |4=>[1,3,4]
 |5|7|11=>[1,3,4,5]
 |6=>[1,3,4,5,60]
 |8=>[1,3,4,5,66]
 |10=>[1,3,4,5,82]
 |12=>[1,3,4,6]
 |13=>[1,3,4,6,7]
 |14|16=>[1,3,4,6,7,8]
 |15=>[1,3,4,6,7,8,93]
 |17|30|31=>[1,3,4,6,7,8,9]
 |18=>[1,3,4,6,7,8,9,108]
 |20=>[1,3,4,6,7,8,9,10,11,12,13]
 |21=>[1,3,4,6,7,8,9,10,11,12,13,118]
 |23|25|26=>[1,3,4,6,7,8,9,10,11,12,13,14]
 |24=>[1,3,4,6,7,8,9,10,11,12,13,14,121]
 |27=>[1,3,4,6,7,8,9,10,11,12,13,14,132]
 |29=>[1,3,4,6,7,8,9,13,134]
 |32=>[1,3,4,6,7,8,170]
 |_=>[]
@[simp] def LD:Nat->List Nat
 |0=>[1]
 |1=>[1,3,4,5]
 |2=>[1,3,4,5,16]
 |3=>[1,3,4,5,16,17]
 |4|6|8|10|12|14|16|19|20|22|24|26|28|30|32|33=>[2]
 |5=>[1,3,4,5,16,21]
 |7=>[1,3,4,5,16,25]
 |9=>[1,3,4,5,16,29]
 |11=>[1,3,4,5,16,39]
 |13=>[1,3,4,5,16,49]
 |15=>[1,3,4,5,16,53]
 |17=>[1,3,4,5,16,63]
 |18=>[1,67]
 |21=>[1,3,4,5,16,82]
 |23=>[1,3,4,5,16,86]
 |25=>[1,3,4,5,16,90]
 |27=>[1,3,4,5,16,92]
 |29=>[1,3,4,5,16,101]
 |31=>[3,4,5,110]
 |_=>[]
@[simp] def PZ:Nat->List (List Nat)
 |1=>[rr,rr,[3,4,6,7],rr,rr,[6,7],rr,rr,[],rr,rr,rr]
 |19=>[[1,2,3],rr,rr,rr,rr,rr,rr,rr]
 |20=>[[1,2,3],rr,rr,rr,rr,rr,rr,rr]
 |_=>[]
@[simp] def LF:Nat->List Nat
 |1=>[0]
 |_=>[]
@[simp] def LG:Nat->List Nat
 |0=>[0,1]
 |1=>[0,1,5]
 |2=>[0,1,5,6]
 |3|8|9|11=>[0,1,5,6,14]
 |4=>[0,1,5,6,14,15,16]
 |5=>[0,1,5,6,7,8,14]
 |6=>[0,1,5,6,7,14,21]
 |7=>[0,1,5,6,7,14,23]
 |10=>[0,1,5,6,7,14,33]
 |12=>[0,5,6,36]
 |13=>[0,5]
 |14=>[0,5,9]
 |15|18|19=>[0,9,47,48,49]
 |16=>[0,9,47,48,49,50]
 |17=>[0,9,10,11,47,48,49]
 |20=>[4]
 |_=>[]
@[simp] def LH:Nat->List Nat
 |0=>[0,2]
 |1=>[0,2,4]
 |2|4=>[0,2,4,5]
 |3=>[0,2,4,5,16]
 |5=>[0,2,4,5,6]
 |6=>[0,2,4,5,6,7]
 |7|11|12=>[0,2,4,5,6,7,20,21]
 |8=>[0,2,4,5,6,7,20,21,22]
 |9=>[0,2,4,5,6,7,8,20,21]
 |10=>[0,2,4,5,6,7,8,20,21,30]
 |13=>[0,2,5,6,7,46]
 |14|21|22=>[2,3]
 |15=>[0,2,5,6,7]
 |16=>[0,2,5,56]
 |17=>[0,2,5,56,57,58]
 |18=>[0,2,5,9,10,56]
 |19=>[0,2,5,11,56]
 |20=>[0,2,5,11,56,69]
 |_=>[]
@[simp] def LJ:Nat->List Nat
 |0=>[0]
 |1=>[0,3]
 |2=>[0,3,4]
 |3=>[0,3,51]
 |4|9|11=>[2]
 |5|10=>[0,53,54,55]
 |6=>[0,53,54,55,56]
 |7=>[0,5,6,53,54,55]
 |8=>[0,53,54,55,64]
 |_=>[]
@[simp] def LK:Nat->List Nat
 |0=>[0]
 |1|5|6=>[0,11,12,13]
 |2=>[0,11,12,13,14]
 |3=>[0,4,11,12,13]
 |4=>[0,4,11,12,13,24]
 |7|12=>[0,37,38,39]
 |8=>[0,37,38,39,40]
 |9=>[0,5,6,37,38,39]
 |10=>[0,37,38,39,61]
 |11|13=>[2]
 |_=>[]
@[simp] def P0:Nat->List (List Nat)
 |5=>[rr,rr,rr,rr,rr,rr,rr,[]]
 |_=>[]
@[simp] def LL:Nat->List Nat
 |0=>[0]
 |1=>[0,3]
 |2|7=>[0,3,17,18]
 |3=>[0,3,17,18,19]
 |4=>[0,3,4,17,18]
 |5=>[0,3,17,18,24]
 |6|8=>[2]
 |_=>[]
@[simp] def LM:Nat->List Nat
 |1=>[0]
 |_=>[]
@[simp] def LN:Nat->List Nat
 |1=>[0]
 |_=>[]
@[simp] def LO:Nat->List Nat
 |0=>[1,2]
 |1=>[1,2,5]
 |2=>[1,2,5,13]
 |3|4=>[1,2,5,13,14]
 |5|10|12|16|19|20|23|26|28|29=>[4]
 |6|7|8|9=>[1,2,5,13,17]
 |11=>[1,2,5,13,26]
 |13|14|15=>[1,2,5,13,38]
 |17=>[1,2,5,13,69]
 |18=>[5,73]
 |21|22=>[1,2,5,13,115]
 |24=>[1,2,5,13,129]
 |25=>[2,5,6]
 |27=>[1,2,144]
 |_=>[]
@[simp] def P1:Nat->List (List Nat)
 |3=>[rr,rr,rr,rr,rr,rr,rr,rr,rr,rr,rr,rr]
 |12=>[rr,rr,rr,rr,rr,rr,rr]
 |21=>[rr,rr,rr,rr,rr,rr,rr,rr,rr,rr,rr,rr,rr,rr,rr,rr]
 |_=>[]
@[simp] def LP:Nat->List Nat
 |0=>[1]
 |1=>[1,3]
 |2=>[1,3,4]
 |3|5=>[1,3,4,5]
 |4=>[1,3,4,15]
 |6|8|16=>[1,3,4,5,6]
 |7=>[1,3,4,5,6,19]
 |9=>[1,3,4,5,6,7]
 |10=>[1,3,4,5,6,7,30]
 |11=>[1,3,4,5,6,7,8]
 |12=>[1,3,4,5,6,7,8,40]
 |13=>[1,3,4,5,6,8]
 |14=>[1,3,4,5,6,68]
 |15=>[1,3,4,6]
 |17|19=>[3,4,9]
 |18=>[3,4,9,74]
 |20=>[3,4,9,81]
 |21|22=>[2]
 |_=>[]
@[simp] def LQ:Nat->List Nat
 |1=>[0]
 |_=>[]
@[simp] def LR:Nat->List Nat
 |0|6|7=>[0,1,2,3]
 |1=>[0,1,2,3,13]
 |2|4|18=>[8]
 |3=>[0,1,2,3,15]
 |5=>[0,1,2,3,20]
 |8|9=>[0,1,2,3,9]
 |10|15|16=>[0,1,2,3,9,10]
 |11=>[0,1,2,3,9,10,36]
 |12|14=>[0,1,2,3,9,10,11]
 |13=>[0,1,2,3,9,10,11,41]
 |17=>[9,10]
 |_=>[]
@[simp] def LS:Nat->List Nat
 |0=>[0,1,2]
 |1=>[0,1,2,7]
 |2=>[0,2,7,9]
 |3=>[0,2,7,9,10]
 |4|6|8|10|15=>[7]
 |5=>[0,2,7,9,20]
 |7=>[0,2,7,9,30]
 |9=>[0,2,7,9,40]
 |11=>[0,2,7,9,50]
 |12=>[0,7,8]
 |13=>[0,7,8,56]
 |14|19|21|22=>[6]
 |16=>[0,2,7,62]
 |17=>[0,7]
 |18=>[7,73]
 |20=>[75]
 |_=>[]
@[simp] def LU:Nat->List Nat
 |0=>[0,1,5]
 |1=>[0,1,5,7]
 |2=>[0,1,5,7,17]
 |3|4=>[0,1,5,7,17,18]
 |5|10|12|16|18|21|24|26|27=>[6]
 |6|7|8|9=>[0,1,5,7,17,21]
 |11=>[0,1,5,7,17,30]
 |13|14|15=>[0,1,5,7,17,42]
 |17=>[0,1,5,7,17,49]
 |19|20=>[0,1,5,7,17,53]
 |22=>[0,1,5,7,17,65]
 |23=>[0,5,8]
 |25=>[1,7,80]
 |_=>[]
@[simp] def LV:Nat->List Nat
 |0=>[0,3]
 |1=>[0,3,7]
 |2=>[0,3,7,8]
 |3|5|9|11|13|15|17|22|24|25=>[4]
 |4=>[0,3,7,20]
 |6|7|8=>[0,3,7,24]
 |10=>[0,3,7,30]
 |12=>[0,3,7,38]
 |14=>[0,3,7,46]
 |16=>[0,3,7,50]
 |18=>[0,3,7,54]
 |19|21=>[0,3,5]
 |20=>[0,3,5,63]
 |23=>[0,82]
 |_=>[]
@[simp] def LW:Nat->List Nat
 |0|3=>[0,1,2]
 |1=>[0,1,2,13]
 |2|9|12=>[6]
 |4=>[0,1,2,31]
 |5|10=>[0,1,2,41,42,43]
 |6=>[0,1,2,41,42,43,44]
 |7=>[0,1,2,8,41,42,43]
 |8=>[0,1,2,41,42,43,62]
 |_=>[]
@[simp] def LX:Nat->List Nat
 |0=>[0]
 |1=>[0,3]
 |2=>[0,3,4]
 |3=>[0,3,4,5]
 |4|6|11=>[0,3,4,5,6]
 |5=>[0,3,4,5,6,16]
 |7|8=>[0,3,4,5,6,7]
 |9=>[0,3,4,5,6,8]
 |10=>[0,3,5,6,8]
 |12=>[0,3,37]
 |13|32=>[2]
 |14=>[0,9]
 |15|16=>[0,9,10]
 |17|19|24|25|26|28=>[0,9,10,12]
 |18=>[0,9,10,12,53]
 |20|23|29=>[0,9,10,11,12]
 |21=>[0,9,10,11,12,60]
 |22=>[0,9,10,11,12,66]
 |27=>[0,9,10,12,91]
 |30=>[0,9,10,11,98]
 |31=>[9]
 |_=>[]
@[simp] def LY:Nat->List Nat
 |0=>[0]
 |1=>[0,14]
 |2|20|21=>[2]
 |3=>[0,3]
 |4|6=>[0,3,4]
 |5=>[0,3,4,19]
 |7=>[0,3,4,28]
 |8=>[3,4,5]
 |9|11|19=>[3,4,5,6]
 |10=>[3,4,5,6,36]
 |12=>[3,4,5,6,7]
 |13|15|17=>[3,4,5,6,7,8]
 |14=>[3,4,5,6,7,8,52]
 |16=>[3,4,5,6,7,8,55]
 |18=>[3,4,5,6,8]
 |_=>[]
@[simp] def IU:Nat->List Nat
 |0|3=>[0,1]
 |1=>[0,1,5]
 |2=>[0,1,5,18]
 |4=>[0,1,6]
 |5|7|10=>[0,1,6,7]
 |6=>[0,1,6,7,25]
 |8|9=>[0,1,6,7,9]
 |11=>[0,1,6,43]
 |12=>[6]
 |13=>[4]
 |_=>[]
@[simp] def IV:Nat->List Nat
 |0=>[0,1]
 |1=>[0,1,9]
 |2|4|8=>[4]
 |3=>[0,1,15]
 |5|10=>[0,1,5]
 |6|9=>[0,1,5,6]
 |7=>[0,1,5,6,24]
 |_=>[]
@[simp] def IW:Nat->List Nat
 |0=>[0,1]
 |1|6=>[0,1,7,8]
 |2=>[0,1,7,8,9]
 |3=>[0,1,5,7,8]
 |4=>[0,1,5,7,8,16]
 |5|7=>[4]
 |_=>[]
@[simp] def IX:Nat->List Nat
 |0=>[0]
 |1=>[3,4]
 |2=>[3,12]
 |3|9=>[2]
 |4=>[3,5]
 |5|7|8=>[5,21,22]
 |6=>[5,21,22,23]
 |_=>[]
@[simp] def Nk:Nat->List (List Nat)
 |4=>[rr,rr,[3,4],rr,rr,[],[],rr]
 |_=>[]
@[simp] def IY:Nat->List Nat
 |0=>[0,1,2]
 |1=>[0,1,2,15]
 |2|7|10=>[6]
 |3|8=>[0,1,2,27,28,29]
 |4=>[0,1,2,27,28,29,30]
 |5=>[0,1,2,8,27,28,29]
 |6=>[0,1,2,27,28,29,37]
 |_=>[]
@[simp] def Nl:Nat->List (List Nat)
 |3=>[rr,rr,rr,rr,rr,rr,rr,rr,rr,rr,rr,[13],rr,rr]
 |9=>[rr,rr,rr,rr,rr,rr,rr,rr,rr,rr,rr,rr,[0],rr,rr,[]]
 |_=>[]
@[simp] def IZ:Nat->List Nat
 |0|10|11=>[0,1,4]
 |1=>[0,1,4,20]
 |2|3=>[0,1,4,5]
 |4=>[0,1,4,6,7]
 |5=>[0,1,4,6,8,9]
 |6=>[0,1,4,8,9,10,11]
 |7=>[0,1,4,8,10,11]
 |8=>[0,1,4,10,11]
 |9=>[0,1,4,10]
 |12|18|19|23|24=>[0,4,12]
 |13=>[0,4,12,99]
 |14|15=>[0,4,12,13]
 |16=>[0,4,12,14,15]
 |17=>[0,4,12,14]
 |20=>[0,4,12,139]
 |21|22=>[0,4,12,16]
 |25=>[0,12,161]
 |_=>[]
@[simp] def Nn:Nat->List (List Nat)
 |7=>[rr,rr,rr,rr,rr,rr,rr,rr,rr,rr,rr,rr,[3,4,5,9,10],rr,[]]
 |8=>[rr,rr,rr,rr,rr,rr,rr,rr,rr,rr,rr,rr,[3,4,5,9,10],rr,[]]
 |9=>[rr,rr,rr,rr,rr,rr,rr,rr,rr,rr,rr,rr,[3,4,5,9,10],rr,[]]
 |10=>[rr,rr,rr,rr,rr,rr,rr,rr,rr,rr,rr,rr,[3,4,5,9,10],rr,[]]
 |17=>[rr,rr,rr,rr,rr,rr,rr,rr,rr,rr,rr,rr,[3,4,5,9,10],rr,[]]
 |18=>[rr,rr,rr,rr,rr,rr,rr,rr,rr,rr,rr,rr,[3,4,5,9,10],rr,[]]
 |23=>[rr,rr,rr,rr,rr,rr,rr,rr,rr,rr,rr,rr,[3,4,5,9,10],rr,[]]
 |_=>[]
@[simp] def I0:Nat->List Nat
 |0|2=>[0,1,2,3,4,10,11]
 |1=>[0,1,2,3,4,10,11,28]
 |3=>[0,1,2,3,4,10,11,12]
 |4|6=>[0,1,2,3,4,10,11,12,13]
 |5=>[0,1,2,3,4,10,11,12,13,30]
 |7=>[0,1,2,3,4,10,11,12,13,34]
 |8=>[0,1,2,3,4,10,11,12,13,14]
 |9=>[0,1,2,3,4,10,11,12,13,14,15]
 |10|12|13|14=>[0,1,3,4,10,11,12,13,14,15,16]
 |11=>[0,1,3,4,10,11,12,13,14,15,16,46]
 |15|23=>[0,1,3,4,10,11,12,13]
 |16|24=>[0,3,4,10,11,12,13]
 |17|19|22=>[0,1,3,4,10,11,12,13,17]
 |18=>[0,1,3,4,10,11,12,13,17,68]
 |20=>[0,1,3,4,10,11,12,13,17,18]
 |21=>[0,3,4,10,11,12,13,17,18]
 |25=>[0,4,10,11,12,13,89]
 |26|27=>[0,4,10,11,12,13]
 |28=>[0,10,11,12,13,94]
 |29|30=>[10,11]
 |_=>[]
@[simp] def I1:Nat->List Nat
 |1=>[0]
 |_=>[]
@[simp] def I2:Nat->List Nat
 |0=>[0,1]
 |1|6=>[0,1,7,8]
 |2=>[0,1,7,8,9]
 |3=>[0,1,5,7,8]
 |4=>[0,1,5,7,8,16]
 |5|7=>[4]
 |_=>[]
@[simp] def I3:Nat->List Nat
 |0=>[0,1]
 |1=>[0,1,5]
 |2=>[0,1,5,16]
 |3|5|7|9|19|22|28|29|33|34|35=>[4]
 |4=>[0,1,5,24]
 |6=>[0,1,5,31]
 |8=>[0,1,5,36]
 |10=>[0,1,5,6]
 |11=>[0,1,5,6,7]
 |12=>[0,1,5,6,7,8]
 |13=>[0,1,5,6,7,8,9]
 |14|20|23|24=>[0,1,5,6,7,8,9,10]
 |15=>[0,1,5,6,7,8,9,10,59]
 |16=>[0,1,5,6,7,8,9,10,64]
 |17=>[0,1,5,6,7,8,9,10,11]
 |18=>[0,1,5,6,7,8,9,10,11,73]
 |21=>[0,1,5,6,7,8,9,10,93]
 |25=>[0,1,5,6,7,8,9,10,107]
 |26=>[8,12]
 |27=>[8,12,114]
 |30=>[0,1,5,6,7,8,9,10,132]
 |31=>[8,13]
 |32=>[8,13,139]
 |_=>[]
@[simp] def I4:Nat->List Nat
 |0=>[0,2]
 |1|3=>[2,4]
 |2=>[2,4,6]
 |4=>[2]
 |_=>[]
@[simp] def I5:Nat->List Nat
 |0=>[0,1]
 |1=>[0,1,5]
 |2|9|10=>[1,5,12,13,14]
 |3=>[1,5,12,13,14,15]
 |4=>[1,5,7,12,13,14]
 |5=>[1,5,7,8,12,13,14]
 |6=>[1,5,8,9,10,12,13,14]
 |7=>[1,5,8,9,12,13,14,26]
 |8=>[1,5,8,12,13,14]
 |11=>[4]
 |_=>[]
@[simp] def I6:Nat->List Nat
 |0=>[0,1]
 |1=>[0,1,5,6]
 |2=>[0,1,5,6,7]
 |3=>[0,1,5,6,7,8]
 |4|6|7=>[0,1,5,6,7,8,9]
 |5=>[0,1,5,6,7,8,9,20]
 |8=>[0,1,5,6,7,8,39]
 |9|17|18=>[4]
 |10|12|13|14|15=>[0,1,5,6,7,8,10]
 |11=>[0,1,5,6,7,8,10,44]
 |16=>[0,1,5,6,7,8,10,77]
 |_=>[]
@[simp] def I7:Nat->List Nat
 |0=>[0]
 |1=>[0,4]
 |2=>[0,4,16]
 |3|8|12|15|17|20|22|25|26=>[2,3]
 |4=>[0,4,5]
 |5=>[0,4,5,6]
 |6=>[0,4,5,6,23]
 |7=>[0,7]
 |9=>[0,4,5,6,8]
 |10=>[0,4,5,8,9]
 |11=>[0,5,8,9,45]
 |13=>[0,5,8,9,10]
 |14=>[0,5,8,10,57]
 |16=>[0,5,8,10,59]
 |18=>[0,5,8,10,11]
 |19=>[0,5,8,10,11,75]
 |21=>[0,5,10,11,77]
 |23=>[5,10,11,12]
 |24=>[5,10,11,12,98]
 |_=>[]
@[simp] def I8:Nat->List Nat
 |0|8=>[0,1,2]
 |1=>[0,1,2,13]
 |2|13|18|20|24=>[6,7]
 |3|6|9|10=>[0,1,2,8]
 |4=>[0,1,2,8,16]
 |5=>[0,1,2,8,16,17]
 |7=>[0,1,2,8,21]
 |11=>[2,7,8,9]
 |12=>[2,7,8,9,38]
 |14=>[2,8,9,41]
 |15=>[2,8,9]
 |16=>[8,9,10]
 |17=>[8,9,10,52]
 |19=>[8,9,10,62]
 |21=>[8,11]
 |22=>[11,69]
 |23=>[11]
 |_=>[]
@[simp] def I9:Nat->List Nat
 |0=>[0,1]
 |1=>[0,1,17]
 |2|10=>[0,1,19,20]
 |3=>[0,1,19,20,21]
 |4=>[0,1,5,19,20]
 |5=>[0,1,6,19,20]
 |6=>[0,1,6,19,20,31]
 |7|9|11|18|22=>[4]
 |8=>[0,1,6,19,20,37]
 |12=>[0,1,7]
 |13|20|21=>[0,1,7,8]
 |14=>[0,1,7,8,62]
 |15=>[0,1,7,8,9]
 |16=>[0,1,7,8,9,10]
 |17=>[0,1,7,8,9,10,85]
 |19=>[0,1,7,8,9,110]
 |_=>[]
@[simp] def No:Nat->List (List Nat)
 |9=>[rr,rr,rr,rr,rr,rr,rr,rr,rr,rr,rr,rr,rr,rr,rr,rr,rr,rr,rr,rr]
 |18=>[rr,rr,rr,rr,rr,rr,rr,rr,rr,rr,rr,rr,rr,rr,rr,rr,rr,rr,rr,rr]
 |_=>[]
@[simp] def Ja:Nat->List Nat
 |0=>[0,1]
 |1=>[0,1,13]
 |2|10=>[0,1,15,16]
 |3=>[0,1,15,16,17]
 |4=>[0,1,5,15,16]
 |5=>[0,1,6,15,16]
 |6=>[0,1,6,15,16,27]
 |7|9|11|18|22=>[4]
 |8=>[0,1,6,15,16,33]
 |12=>[0,1,7]
 |13|20|21=>[0,1,7,8]
 |14=>[0,1,7,8,58]
 |15=>[0,1,7,8,9]
 |16=>[0,1,7,8,9,10]
 |17=>[0,1,7,8,9,10,78]
 |19=>[0,1,7,8,9,95]
 |_=>[]
@[simp] def Np:Nat->List (List Nat)
 |9=>[rr,rr,rr,rr,rr,rr,rr,rr,rr,rr,rr,rr,rr,rr,rr,rr,rr,rr,rr,rr]
 |_=>[]
@[simp] def Jb:Nat->List Nat
 |0=>[0]
 |1=>[0,4]
 |2|4|5=>[0,4,5]
 |3=>[0,4,5,12]
 |6=>[0,4,6,7]
 |7|9|11|12=>[4,6,7,8]
 |8=>[4,6,7,8,25]
 |10=>[4,6,7,8,30]
 |13=>[2,3]
 |_=>[]
@[simp] def Jc:Nat->List Nat
 |0=>[0,1,2]
 |1=>[0,1,2,19]
 |2|5|24|39|47|49|53|57|58=>[6,7]
 |3=>[0,1,2,8]
 |4|8|10|11|13|14|16|17|19|20|22|25=>[0,1,2,8,9]
 |6=>[0,1,2,8,9,25]
 |7=>[0,2,8,9,32]
 |9=>[0,1,2,8,9,37]
 |12=>[0,2,8,9,40]
 |15=>[0,2,8,9,52]
 |18=>[0,2,8,9,64]
 |21=>[0,1,2,8,9,77]
 |23=>[0,1,2,8,9,83]
 |26=>[0,1,2,8,9,85]
 |27|29|31=>[0,1,2,8,9,10]
 |28=>[0,1,2,8,9,85,90]
 |30=>[0,1,2,8,9,92]
 |32=>[0,1,8,9,10,11]
 |33=>[0,1,8,9,10,11,12]
 |34=>[0,1,8,9,10,11,12,13]
 |35|41|54|55=>[1,8,9,10,11,12,13,99,100,101]
 |36=>[1,8,9,10,11,12,13,99,100,101,102]
 |37|38=>[1,8,9,10,11,12,13,15,99,100,101]
 |40=>[1,8,9,10,11,12,13,15,99,100,101,106]
 |42=>[1,8,9,10,11,12,13,15,99,100,101,112]
 |43|45|50=>[1,8,9,10,11,12,13,16,99,100,101]
 |44=>[1,8,9,10,11,12,13,15,99,100,101,121]
 |46=>[1,8,9,10,11,12,13,16,99,100,101,137]
 |48=>[1,8,9,10,11,12,13,16,99,100,101,141]
 |51=>[1,8,9,10,11,12,13,17,99,100,101]
 |52=>[1,8,9,10,11,12,17,99,100,101,159]
 |56=>[13,169]
 |_=>[]
@[simp] def Nq:Nat->List (List Nat)
 |1=>[rr,rr,[0,3],rr,rr,[],rr]
 |_=>[]
@[simp] def Nr:Nat->List (List Nat)
 |1=>[rr,rr,[0,3],rr,rr,[],rr]
 |_=>[]
@[simp] def Jd:Nat->List Nat
 |0=>[0]
 |1=>[0,3]
 |2|4|8=>[0,3,4]
 |3=>[0,3,4,18]
 |5|9|11|13|17|20=>[0,3,4,5]
 |6=>[0,3,4,5,46]
 |7=>[0,4]
 |10=>[0,3,4,5,54]
 |12=>[0,3,4,5,83]
 |14=>[0,3,4,5,87]
 |15=>[0,4,5,89]
 |16|19|21=>[2]
 |18=>[0,4,5,91]
 |_=>[]
end Go.Am
end
section
namespace Go.Am
open Go
open Go.Proofs Go.Proofs.Tryz
set_option maxRecDepth 10000
@[simp] noncomputable def T0:Nat->Tb
 |4=>⟨za,zg,[],fs [150],zl,zo⟩
 |9=>⟨za,zg,[],fs [250],zl,zo⟩
 |10=>⟨Lu,PQ,[],fs [150,300,310,400,500],zl,PO⟩
 |11=>⟨Lv,zg,[9],fs [150,400],zl,PT⟩
 |_=>zt
@[simp] noncomputable def T1:Nat->Tb
 |3=>⟨za,zg,[],⟨[1],false,[],[],false⟩,zl,PU⟩
 |6=>⟨Lw,zg,[],fs [],zl,zo⟩
 |9=>⟨LA,PV,[9],fs [200,350,351,600],zl,zo⟩
 |10=>⟨za,PX,[2],fs [150,500,600,601],zl,PW⟩
 |11=>⟨za,zg,[],⟨[1],false,[],[],false⟩,zl,zo⟩
 |12=>⟨za,zg,[],fs [],zl,zo⟩
 |13=>⟨LB,zg,[],fs [150,250,300,400,1250],zl,PY⟩
 |14=>⟨LC,zg,[2,10,27,32],fs [150,450,550,2950],zl,zo⟩
 |15=>⟨za,zg,[],fs [],zl,zo⟩
 |_=>zt
@[simp] noncomputable def T4:Nat->Tb
 |0=>⟨LD,zg,[],fs [150],zl,PZ⟩
 |10=>⟨LF,zg,[],fs [],zl,zo⟩
 |12=>⟨za,zg,[],fs [],zl,zo⟩
 |13=>⟨LG,zg,[],fs [650,700,800,2400],zl,zo⟩
 |14=>⟨za,zg,[],fs [],zl,zo⟩
 |15=>⟨za,zg,[],⟨[1],false,[],[],false⟩,zl,zo⟩
 |_=>zt
@[simp] noncomputable def T7:Nat->Tb
 |0=>⟨LH,zg,[13],fs [200,350,2900],zl,zo⟩
 |1=>⟨LJ,zg,[3],⟨[1,2],false,[250,400],[],false⟩,zl,zo⟩
 |2=>⟨LK,zg,[10],fs [300,400],zl,P0⟩
 |3=>⟨LL,zg,[],⟨[1,2],false,[650],[],false⟩,zl,zo⟩
 |4=>⟨za,zg,[],⟨[1],false,[],[],false⟩,zl,zo⟩
 |5=>⟨za,zg,[],fs [],zl,zo⟩
 |6=>⟨LM,zg,[],fs [],zl,zo⟩
 |7=>⟨LN,zg,[],fs [],zl,zo⟩
 |8=>⟨za,zg,[],fs [250],zl,zo⟩
 |9=>⟨LO,zg,[12,16,19,20,26],fs [200,350],zl,zo⟩
 |10=>⟨za,zg,[],fs [150],zl,P1⟩
 |11=>⟨LP,zg,[13],fs [150,450,800],zl,zo⟩
 |12=>⟨za,zg,[],fs [],zl,zo⟩
 |13=>⟨LQ,zg,[],fs [],zl,zo⟩
 |_=>zt
@[simp] noncomputable def T8:Nat->Tb
 |15=>⟨LR,zg,[],fs [1650],zl,zo⟩
 |_=>zt
@[simp] noncomputable def T9:Nat->Tb
 |0=>⟨za,zg,[],fs [],zl,zo⟩
 |1=>⟨LS,zg,[],fs [],zl,zo⟩
 |2=>⟨LU,zg,[12,24],⟨[1,2],false,[350],[],false⟩,zl,zo⟩
 |3=>⟨za,zg,[],⟨[1,2],false,[],[],false⟩,zl,zo⟩
 |4=>⟨LV,zg,[11,13,22,24],⟨[2],false,[250],[],false⟩,zl,zo⟩
 |5=>⟨LW,zg,[8],⟨[1,2,3],false,[],[2],false⟩,zl,zo⟩
 |7=>⟨za,zg,[],fs [350],zl,zo⟩
 |8=>⟨LX,zg,[18,27],fs [2150],zl,zo⟩
 |9=>⟨za,zg,[],fs [150,200],zl,zo⟩
 |10=>⟨za,zg,[],fs [250],zl,zo⟩
 |11=>⟨LY,zg,[],fs [350,500],zl,zo⟩
 |14=>⟨za,zg,[],fs [],zl,zo⟩
 |_=>zt
@[simp] noncomputable def Ua:Nat->Tb
 |12=>⟨IU,zg,[],fs [1150],zl,zo⟩
 |13=>⟨IV,zg,[],fs [],zl,zo⟩
 |14=>⟨za,zg,[2],fs [],zl,zo⟩
 |15=>⟨IW,zg,[],fs [],zl,zo⟩
 |_=>zt
@[simp] noncomputable def Ub:Nat->Tb
 |0=>⟨za,zg,[],fs [150],zl,zo⟩
 |1=>⟨za,zg,[],⟨[1,2],false,[],[],false⟩,zl,zo⟩
 |2=>⟨za,zg,[1],⟨[1,2],false,[250],[],false⟩,zl,zo⟩
 |3=>⟨za,zg,[2,4],fs [150],zl,zo⟩
 |4=>⟨IX,zg,[],fs [250,851],zl,Nk⟩
 |5=>⟨za,zg,[],⟨[2],false,[],[],false⟩,zl,zo⟩
 |6=>⟨IY,zg,[],⟨[2],false,[],[],false⟩,zl,Nl⟩
 |7=>⟨za,zg,[],fs [250],zl,zo⟩
 |8=>⟨za,zg,[],fs [],zl,zo⟩
 |9=>⟨za,zg,[],fs [],zl,zo⟩
 |10=>⟨IZ,zg,[],⟨[0],false,[],[0],false⟩,zl,Nn⟩
 |11=>⟨I0,zg,[],fs [600,700],zl,zo⟩
 |12=>⟨za,zg,[],fs [],zl,zo⟩
 |13=>⟨I1,zg,[],fs [],zl,zo⟩
 |14=>⟨I2,zg,[],fs [],zl,zo⟩
 |15=>⟨za,zg,[],fs [200],zl,zo⟩
 |_=>zt
@[simp] noncomputable def Uc:Nat->Tb
 |1=>⟨za,zg,[],fs [],zl,zo⟩
 |2=>⟨I3,zg,[21,25],fs [],zl,zo⟩
 |6=>⟨I4,zg,[],fs [300],zl,zo⟩
 |7=>⟨za,zg,[1],fs [],zl,zo⟩
 |9=>⟨za,zg,[],fs [],zl,zo⟩
 |10=>⟨za,zg,[],fs [200],zl,zo⟩
 |11=>⟨I5,zg,[],⟨[],true,[300,350,500],[],false⟩,zl,zo⟩
 |12=>⟨za,zg,[],fs [],zl,zo⟩
 |13=>⟨za,zg,[],fs [],zl,zo⟩
 |14=>⟨za,zg,[],fs [],zl,zo⟩
 |15=>⟨za,zg,[],fs [],zl,zo⟩
 |_=>zt
@[simp] noncomputable def Ud:Nat->Tb
 |0=>⟨za,zg,[],fs [],zl,zo⟩
 |1=>⟨za,zg,[3,6],fs [],zl,zo⟩
 |4=>⟨za,zg,[],fs [],zl,zo⟩
 |5=>⟨I6,zg,[8,16],fs [],zl,zo⟩
 |6=>⟨I7,zg,[],fs [550],zl,zo⟩
 |7=>⟨I8,zg,[],fs [],zl,zo⟩
 |8=>⟨za,zg,[],fs [],zl,zo⟩
 |9=>⟨za,zg,[],fs [],zl,zo⟩
 |10=>⟨za,zg,[],fs [],zl,zo⟩
 |11=>⟨za,zg,[],fs [],zl,zo⟩
 |12=>⟨I9,zg,[],fs [],zl,No⟩
 |13=>⟨Ja,zg,[],fs [600],zl,Np⟩
 |14=>⟨Jb,zg,[],fs [],zl,zo⟩
 |15=>⟨Jc,zg,[12,15,18,44,56],fs [],zl,zo⟩
 |_=>zt
@[simp] noncomputable def P2:Nat->Tb
 |0=>⟨za,zg,[],fs [600],zl,Nq⟩
 |1=>⟨za,zg,[],fs [600],zl,Nr⟩
 |2=>⟨za,zg,[],fs [850],zl,zo⟩
 |3=>⟨za,zg,[],fs [850],zl,zo⟩
 |4=>⟨za,zg,[],fs [],zl,zo⟩
 |5=>⟨za,zg,[],fs [],zl,zo⟩
 |6=>⟨Jd,zg,[3,6,12],fs [],zl,zo⟩
 |7=>⟨za,zg,[],fs [550],zl,zo⟩
 |8=>⟨za,zg,[],fs [350],zl,zo⟩
 |9=>⟨za,zg,[],fs [],zl,zo⟩
 |10=>⟨za,zg,[1],fs [],zl,zo⟩
 |11=>⟨za,zg,[],fs [],zl,zo⟩
 |_=>zt
@[simp] noncomputable def Ue:Nat->Nat->Tb
 |0=>T0
 |1=>T1
 |2=>T4
 |3=>T7
 |4=>T8
 |5=>T9
 |6=>Ua
 |7=>Ub
 |8=>Uc
 |9=>Ud
 |10=>P2
 |_=>λ_=>zt
@[simp] noncomputable def mo(n:Nat):Tb:=Ue (n/16) (n%16)
def dx:Type:=Int
variable [Inhabited dx]
def kA:List Int:=[1,10,100,1000,10000,100000,1000000,10000000,100000000,1000000000,10000000000,100000000000,1000000000000,10000000000000,100000000000000,1000000000000000,10000000000000000,100000000000000000,1000000000000000000,10000000000000000000]
def wN:List Int:=[0,0,0,0,0,0,0,0,0,1,1,1,1,1,0,0,0,0,0,0,0,0,0,0,0,0,0,0,0,0,0,0,1,0,0,0,0,0,0,0,0,0,0,0,0,0,0,0,0,0,0,0,0,0,0,0,0,0,0,0,0,0,0,0,0,0,0,0,0,0,0,0,0,0,0,0,0,0,0,0,0,0,0,0,0,0,0,0,0,0,0,0,0,0,0,0,0,0,0,0,0,0,0,0,0,0,0,0,0,0,0,0,0,0,0,0,0,0,0,0,0,0,0,0,0,0,0,0,0,0,0,0,0,0,0,0,0,0,0,0,0,0,0,0,0,0,0,0,0,0,0,0,0,0,0,0,0,0,0,0,0,0,0,0,0,0,0,0,0,0,0,0,0,0,0,0,0,0,0,0,0,0,0,0,0,0,0,0,0,0,0,0,0,0,0,0,0,0,0,0,0,0,0,0,0,0,0,0,0,0,0,0,0,0,0,0,0,0,0,0,0,0,0,0,0,0,0,0,0,0,0,0,0,0,0,0,0,0,0,0,0,0,0,0,0,0,0,0,0,0,0,0,0,0,0,0]
def b7:List (Nat×D):=[(1,.agg (kA.map λz=>.int .u64 z)),(0,.agg (wN.map λz=>.int .u8 z)),(3,.int .i64 (id (α:=Int) (default:dx))),(8,.jb),(9,.jb)]
@[simp] def Uf:uK b7 1=some (.agg (kA.map λz=>.int .u64 z)):=rfl
@[simp] def VP:uK b7 0=some (.agg (wN.map λz=>.int .u8 z)):=rfl
def G2:FuncId->Option (List AV->Option AV)
 |44=>some (jB sk)
 |45=>some (Fc 46 32)
 |53=>some (jB E9)
 |137=>some (Fb)
 |169=>some (jB Fa)
 |_=>none
noncomputable def ctx:Ctx:=⟨Tryz.prog,b7,λf=>(mo f).k,λf=>(mo f).g,λf r=>(mo f).m.contains r,λf=>(mo f).f,λf=>(mo f).o,G2,λf=>(mo f).l,none⟩
@[simp] def VQ:ctx.P=Tryz.prog:=rfl
@[simp] def Ug:ctx.gl=b7:=rfl
@[simp] def P3(f:FuncId):ctx.kf f=(mo f).k:=rfl
@[simp] def Uh(f:FuncId):ctx.gh f=(mo f).g:=rfl
@[simp] def Ui(f:FuncId):ctx.md f=(mo f).m.contains:=rfl
@[simp] def Uj(f:FuncId):ctx.fp f=(mo f).f:=rfl
@[simp] def Uk(f:FuncId):ctx.fl f=(mo f).l:=rfl
@[simp] def Ul(f:FuncId):ctx.od f=(mo f).o:=rfl
@[simp] def codeOf(fn:Func):Code:=fn.body.getD .skip
abbrev RF(n c:Nat)(fn:Func)(rs:List ResultVar):Prop:=∀{args:List AV}{cs:List ax},vQ c (mo n).f args cs=true->au ctx n args cs=bj ctx n (codeOf fn) (entry c b7 args cs (mo n).f.sites) (wH Tryz.prog (mo n).f cs.length rs)
def cJ{n c:Nat}{fn:Func}{rs:List ResultVar}(A:Tryz.prog.funcs[n]?=some fn:=by kernel_rfl)(E:fn.ntmps=c:=by kernel_rfl)(H:fn.results.toList=rs:=by kernel_rfl)(I:fn.body=some (codeOf fn):=by rfl)(J:qb (codeOf fn)=false:=by kernel_rfl)(M:ctx.qK n=none:=by rfl)(O:(mo n).f.split=false:=by rfl):RF n c fn rs:=λh=>GR rfl M A I J E H rfl O h
def P4:RF 4 31 f4 [.tmp 2]:=cJ
def P5:RF 9 37 f9 [.tmp 0]:=cJ
def Ns:RF 10 42 f10 [.tmp 2,.tmp 3]:=cJ
def Nt:RF 11 114 f11 [.tmp 2,.tmp 3]:=cJ
def Nu:RF 19 14 f19 [.tmp 2]:=cJ
def Nv:RF 26 22 f26 [.tmp 2]:=cJ
def H9:RF 27 19 f27 [.tmp 4,.tmp 5]:=cJ
def Nw:RF 28 6 f28 [.tmp 2]:=cJ
def Nx:RF 29 103 f29 [.tmp 2,.cell 3 70]:=cJ
def Ny:RF 30 174 f30 [.tmp 2]:=cJ
def Nz:RF 31 13 f31 [.tmp 2]:=cJ
def NA:RF 32 120 f32 [.tmp 2]:=cJ
@[simp] def OM{args:List AV}{cs:List ax}:au ctx 44 args cs=gn (jB sk) args cs:=lY rfl rfl
@[simp] def ON{args:List AV}{cs:List ax}:au ctx 45 args cs=gn (Fc 46 32) args cs:=lY rfl rfl
def NB:RF 49 66 f49 [.tmp 2]:=cJ
def NC:RF 50 63 f50 [.tmp 2]:=cJ
def ND:RF 51 26 f51 [.tmp 2]:=cJ
def Ia:RF 52 20 f52 []:=cJ
@[simp] def OO{args:List AV}{cs:List ax}:au ctx 53 args cs=gn (jB E9) args cs:=lY rfl rfl
def NF:RF 57 152 f57 [.tmp 4]:=cJ
def NG:RF 58 54 f58 [.tmp 2,.tmp 3,.tmp 4,.tmp 5]:=cJ
def NH:RF 59 82 f59 [.tmp 2]:=cJ
def NI:RF 60 18 f60 [.tmp 2]:=cJ
def NJ:RF 82 85 f82 [.tmp 6]:=cJ
def NK:RF 83 9 f83 [.tmp 2]:=cJ
def NL:RF 84 92 f84 [.tmp 4]:=cJ
def NM:RF 85 67 f85 [.tmp 6]:=cJ
def NN:RF 89 17 f89 [.cell 2 151,.tmp 3]:=cJ
def NO:RF 90 21 f90 [.tmp 6]:=cJ
def NP:RF 91 77 f91 [.tmp 2]:=cJ
def LZ:RF 113 33 f113 [.tmp 6]:=cJ
def L3:RF 114 32 f114 [.tmp 4]:=cJ
def L4:RF 115 47 f115 [.tmp 2]:=cJ
def L5:RF 116 30 f116 [.tmp 2]:=cJ
def L6:RF 117 21 f117 [.tmp 4]:=cJ
def L7:RF 118 54 f118 [.tmp 6]:=cJ
def L8:RF 119 24 f119 [.tmp 4]:=cJ
def L9:RF 126 19 f126 [.tmp 4]:=cJ
def Ma:RF 127 8 f127 [.tmp 3]:=cJ
@[simp] def NQ{args:List AV}{cs:List ax}:au ctx 137 args cs=gn (Fb) args cs:=lY rfl rfl
@[simp] def NR{args:List AV}{cs:List ax}:au ctx 169 args cs=gn (jB Fa) args cs:=lY rfl rfl
end Go.Am
end
