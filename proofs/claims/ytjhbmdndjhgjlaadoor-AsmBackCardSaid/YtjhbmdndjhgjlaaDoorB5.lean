/-
  Texts of one proof, one behind the other.
-/
import Derived.Test.YtjhbmdndjhgjlaaDoorB1
import Derived.Test.YtjhbmdndjhgjlaaDoorB2
import Derived.Test.YtjhbmdndjhgjlaaDoorB3
import Derived.Test.YtjhbmdndjhgjlaaDoorProg
import Derived.KernelRfl
set_option linter.all false
section
namespace Go.Am
open Go Go.Proofs
set_option maxRecDepth 20000
set_option maxHeartbeats 4000000
abbrev T2(t:Nat)(k:TK)(s:Nat):Prop:=tk Tryd.prog t=k/\b7 Tryd.prog t=some s
abbrev T3(t:Nat)(k:TK)(s:Nat)(z:List AV):Prop:=tk Tryd.prog t=k/\b7 Tryd.prog t=some s/\j6 Tryd.prog t=some z
abbrev T5(t:Nat)(k:TK)(s:Nat)(z:List AV)(b:Nat)(d:D):Prop:=tk Tryd.prog t=k/\b7 Tryd.prog t=some s/\j6 Tryd.prog t=some z/\pk Tryd.prog t=some b/\gE Tryd.prog t=some d
abbrev T6(t s:Nat)(d:List D)(b:Nat):Prop:=tk Tryd.prog t=.struct/\b7 Tryd.prog t=some s/\j6 Tryd.prog t=some (d.map .d)/\pk Tryd.prog t=some b/\gE Tryd.prog t=some (.agg d)
abbrev TI(t:Nat)(k:IntKind)(b:Nat):Prop:=T5 t (.int k) 1 [.d (.int k 0)] b (.int k 0)
abbrev FF(t i o y:Nat):Prop:=pS Tryd.prog t i=some o/\Aj Tryd.prog t i=some y
@[simp] def WE:T2 1 (.func) 1:=by and_intros<;>kernel_rfl
@[simp] def WG:TI 2 .i64 8:=by and_intros<;>kernel_rfl
@[simp] def WH:TI 3 .i64 8:=by and_intros<;>kernel_rfl
@[simp] def WI:T5 4 (.bool) 1 ([.d (.bool false)]) 1 (.bool false):=by and_intros<;>kernel_rfl
@[simp] def WJ:TI 5 .u8 1:=by and_intros<;>kernel_rfl
@[simp] def WK:TI 6 .u8 1:=by and_intros<;>kernel_rfl
@[simp] def WL:T6 7 4 [.int .i64 0,.int .i64 0,.bool false,.int .u8 0] 24/\FF 7 0 0 2/\FF 7 1 1 3/\FF 7 2 2 4/\FF 7 3 3 6/\aZ Tryd.prog 7=some [(0,1),(1,1),(2,1),(3,1)]:=by and_intros<;>kernel_rfl
@[simp] def WM:T6 8 4 [.int .i64 0,.int .i64 0,.bool false,.int .u8 0] 24/\FF 8 0 0 2/\FF 8 1 1 3/\FF 8 2 2 4/\FF 8 3 3 6/\aZ Tryd.prog 8=some [(0,1),(1,1),(2,1),(3,1)]:=by and_intros<;>kernel_rfl
@[simp] def WN:T5 9 (.str) 1 ([.d (.str [])]) 16 (.str [])/\eE Tryd.prog 9=true:=by and_intros<;>kernel_rfl
@[simp] def Vs:T5 10 (.str) 1 ([.d (.str [])]) 16 (.str [])/\eE Tryd.prog 10=true:=by and_intros<;>kernel_rfl
@[simp] def Vt:T5 11 (.str) 1 ([.d (.str [])]) 16 (.str [])/\eE Tryd.prog 11=true:=by and_intros<;>kernel_rfl
@[simp] def Vu:TI 12 .u64 8:=by and_intros<;>kernel_rfl
@[simp] def Vv:T6 13 2 [.str [],.int .u64 0] 24/\FF 13 0 0 9/\FF 13 1 1 12/\aZ Tryd.prog 13=some [(0,1),(1,1)]:=by and_intros<;>kernel_rfl
@[simp] def Vw:T6 14 2 [.str [],.int .u64 0] 24/\FF 14 0 0 9/\FF 14 1 1 12/\aZ Tryd.prog 14=some [(0,1),(1,1)]:=by and_intros<;>kernel_rfl
@[simp] def Vx:T2 15 (.ptr 168) 1:=by and_intros<;>kernel_rfl
@[simp] def Vy:T2 16 (.ptr 171) 1:=by and_intros<;>kernel_rfl
@[simp] def Vz:T2 17 (.ptr 179) 1:=by and_intros<;>kernel_rfl
@[simp] def VA:T3 18 (.struct) 1 ([.lit (.pointer none)])/\FF 18 0 0 17/\aZ Tryd.prog 18=some [(0,1)]:=by and_intros<;>kernel_rfl
@[simp] def VB:T3 19 (.struct) 1 ([.lit (.pointer none)])/\FF 19 0 0 17/\aZ Tryd.prog 19=some [(0,1)]:=by and_intros<;>kernel_rfl
@[simp] def VC:T2 20 (.iface) 1:=by and_intros<;>kernel_rfl
@[simp] def VD:TI 21 .i32 4:=by and_intros<;>kernel_rfl
@[simp] def VE:T5 22 (.slice 34) 1 ([.lit (.slice none 0 0)]) 24 (.list [])/\eE Tryd.prog 22=true:=by and_intros<;>kernel_rfl
@[simp] def VF:T5 23 (.struct) 3 ([.lit (.slice none 0 0),.d (.int .i64 0),.d (.int .i64 0)]) 40 (.agg ([.list [],.int .i64 0,.int .i64 0]))/\FF 23 0 0 22/\FF 23 1 1 3/\FF 23 2 2 3/\aZ Tryd.prog 23=some [(0,1),(1,1),(2,1)]:=by and_intros<;>kernel_rfl
@[simp] def VG:T5 24 (.struct) 3 ([.lit (.slice none 0 0),.d (.int .i64 0),.d (.int .i64 0)]) 40 (.agg ([.list [],.int .i64 0,.int .i64 0]))/\FF 24 0 0 22/\FF 24 1 1 3/\FF 24 2 2 3/\aZ Tryd.prog 24=some [(0,1),(1,1),(2,1)]:=by and_intros<;>kernel_rfl
@[simp] def VH:T2 25 (.func) 1:=by and_intros<;>kernel_rfl
@[simp] def VI:TI 26 .i64 8:=by and_intros<;>kernel_rfl
@[simp] def VJ:T2 28 (.func) 1:=by and_intros<;>kernel_rfl
@[simp] def VK:T2 30 (.func) 1:=by and_intros<;>kernel_rfl
@[simp] def VL:T2 31 (.func) 1:=by and_intros<;>kernel_rfl
@[simp] def VM:T2 32 (.func) 1:=by and_intros<;>kernel_rfl
@[simp] def VN:T6 33 5 [.int .i64 0,.int .i64 0,.int .i64 0,.int .i64 0,.int .i64 0] 40/\FF 33 0 0 3/\FF 33 1 1 3/\FF 33 2 2 3/\FF 33 3 3 2/\FF 33 4 4 2/\aZ Tryd.prog 33=some [(0,1),(1,1),(2,1),(3,1),(4,1)]/\bK Tryd.prog 33=some [.int .i64,.int .i64,.int .i64,.int .i64,.int .i64]:=by and_intros<;>kernel_rfl
@[simp] def VO:T6 34 5 [.int .i64 0,.int .i64 0,.int .i64 0,.int .i64 0,.int .i64 0] 40/\FF 34 0 0 3/\FF 34 1 1 3/\FF 34 2 2 3/\FF 34 3 3 2/\FF 34 4 4 2/\aZ Tryd.prog 34=some [(0,1),(1,1),(2,1),(3,1),(4,1)]/\bK Tryd.prog 34=some [.int .i64,.int .i64,.int .i64,.int .i64,.int .i64]:=by and_intros<;>kernel_rfl
@[simp] def VP:T2 35 (.func) 1:=by and_intros<;>kernel_rfl
@[simp] def VQ:T2 36 (.ptr 39) 1:=by and_intros<;>kernel_rfl
@[simp] def VR:T5 37 (.slice 5) 1 ([.lit (.slice none 0 0)]) 24 (.list [])/\eE Tryd.prog 37=true:=by and_intros<;>kernel_rfl
@[simp] def VS:T3 38 (.struct) 2 ([.lit (.pointer none),.lit (.slice none 0 0)])/\FF 38 0 0 36/\FF 38 1 1 37/\aZ Tryd.prog 38=some [(0,1),(1,1)]:=by and_intros<;>kernel_rfl
@[simp] def VT:T3 39 (.struct) 2 ([.lit (.pointer none),.lit (.slice none 0 0)])/\FF 39 0 0 36/\FF 39 1 1 37/\aZ Tryd.prog 39=some [(0,1),(1,1)]:=by and_intros<;>kernel_rfl
@[simp] def VU:T2 40 (.iface) 1:=by and_intros<;>kernel_rfl
@[simp] def VV:T2 41 (.iface) 1:=by and_intros<;>kernel_rfl
@[simp] def VW:T2 43 (.func) 1:=by and_intros<;>kernel_rfl
@[simp] def VX:T5 48 (.slice 9) 1 ([.lit (.slice none 0 0)]) 24 (.list [])/\eE Tryd.prog 48=true:=by and_intros<;>kernel_rfl
@[simp] def VY:T2 51 (.func) 1:=by and_intros<;>kernel_rfl
@[simp] def VZ:T2 53 (.ptr 24) 1:=by and_intros<;>kernel_rfl
@[simp] def V0:T2 56 (.ptr 59) 1:=by and_intros<;>kernel_rfl
@[simp] def V1:T5 57 (.slice 4) 1 ([.lit (.slice none 0 0)]) 24 (.list [])/\eE Tryd.prog 57=true:=by and_intros<;>kernel_rfl
@[simp] def V2:T5 58 (.struct) 5 ([.lit (.slice none 0 0),.d (.int .i64 0),.d (.int .i64 0),.lit (.slice none 0 0),.lit (.slice none 0 0)]) 88 (.agg ([.list [],.int .i64 0,.int .i64 0,.list [],.list []]))/\FF 58 0 0 24/\FF 58 1 3 57/\FF 58 2 4 57/\aZ Tryd.prog 58=some [(0,3),(3,1),(4,1)]:=by and_intros<;>kernel_rfl
@[simp] def V3:T5 59 (.struct) 5 ([.lit (.slice none 0 0),.d (.int .i64 0),.d (.int .i64 0),.lit (.slice none 0 0),.lit (.slice none 0 0)]) 88 (.agg ([.list [],.int .i64 0,.int .i64 0,.list [],.list []]))/\FF 59 0 0 24/\FF 59 1 3 57/\FF 59 2 4 57/\aZ Tryd.prog 59=some [(0,3),(3,1),(4,1)]:=by and_intros<;>kernel_rfl
@[simp] def V4:T6 61 2 [.str [],.str []] 32/\FF 61 0 0 9/\FF 61 1 1 9/\aZ Tryd.prog 61=some [(0,1),(1,1)]/\bK Tryd.prog 61=some [.str,.str]:=by and_intros<;>kernel_rfl
@[simp] def V5:T5 62 (.slice 61) 1 ([.lit (.slice none 0 0)]) 24 (.list [])/\eE Tryd.prog 62=true:=by and_intros<;>kernel_rfl
@[simp] def V6:T2 63 (.func) 1:=by and_intros<;>kernel_rfl
@[simp] def V7:T2 64 (.func) 1:=by and_intros<;>kernel_rfl
@[simp] def V8:T2 65 (.func) 1:=by and_intros<;>kernel_rfl
@[simp] def V9:T2 66 (.ptr 5) 1:=by and_intros<;>kernel_rfl
@[simp] def Wa:T5 68 (.slice 70) 1 ([.lit (.slice none 0 0)]) 24 (.list [])/\eE Tryd.prog 68=true:=by and_intros<;>kernel_rfl
@[simp] def Wb:T6 69 2 [.int .i64 0,.int .i64 0] 16/\FF 69 0 0 3/\FF 69 1 1 3/\aZ Tryd.prog 69=some [(0,1),(1,1)]/\bK Tryd.prog 69=some [.int .i64,.int .i64]:=by and_intros<;>kernel_rfl
@[simp] def Wc:T6 70 2 [.int .i64 0,.int .i64 0] 16/\FF 70 0 0 3/\FF 70 1 1 3/\aZ Tryd.prog 70=some [(0,1),(1,1)]/\bK Tryd.prog 70=some [.int .i64,.int .i64]:=by and_intros<;>kernel_rfl
@[simp] def Wd:T2 74 (.ptr 34) 1:=by and_intros<;>kernel_rfl
@[simp] def We:T5 77 (.slice 3) 1 ([.lit (.slice none 0 0)]) 24 (.list [])/\eE Tryd.prog 77=true:=by and_intros<;>kernel_rfl
@[simp] def Wf:T2 78 (.func) 1:=by and_intros<;>kernel_rfl
@[simp] def Wg:T6 82 5 [.int .i64 0,.str [],.str [],.str [],.int .i64 0] 64/\FF 82 0 0 3/\FF 82 1 1 9/\FF 82 2 2 9/\FF 82 3 3 9/\FF 82 4 4 3/\aZ Tryd.prog 82=some [(0,1),(1,1),(2,1),(3,1),(4,1)]/\bK Tryd.prog 82=some [.int .i64,.str,.str,.str,.int .i64]:=by and_intros<;>kernel_rfl
@[simp] def Wh:T6 83 5 [.int .i64 0,.str [],.str [],.str [],.int .i64 0] 64/\FF 83 0 0 3/\FF 83 1 1 9/\FF 83 2 2 9/\FF 83 3 3 9/\FF 83 4 4 3/\aZ Tryd.prog 83=some [(0,1),(1,1),(2,1),(3,1),(4,1)]/\bK Tryd.prog 83=some [.int .i64,.str,.str,.str,.int .i64]:=by and_intros<;>kernel_rfl
@[simp] def Wi:T5 93 (.slice 116) 1 ([.lit (.slice none 0 0)]) 24 (.list [])/\eE Tryd.prog 93=true:=by and_intros<;>kernel_rfl
@[simp] def Wj:T2 94 (.func) 1:=by and_intros<;>kernel_rfl
@[simp] def Wk:T2 95 (.func) 1:=by and_intros<;>kernel_rfl
@[simp] def Wl:T2 97 (.func) 1:=by and_intros<;>kernel_rfl
@[simp] def Wm:T5 98 (.arr 24 5) 24 ([.d (.int .u8 0),.d (.int .u8 0),.d (.int .u8 0),.d (.int .u8 0),.d (.int .u8 0),.d (.int .u8 0),.d (.int .u8 0),.d (.int .u8 0),.d (.int .u8 0),.d (.int .u8 0),.d (.int .u8 0),.d (.int .u8 0),.d (.int .u8 0),.d (.int .u8 0),.d (.int .u8 0),.d (.int .u8 0),.d (.int .u8 0),.d (.int .u8 0),.d (.int .u8 0),.d (.int .u8 0),.d (.int .u8 0),.d (.int .u8 0),.d (.int .u8 0),.d (.int .u8 0)]) 24 (.agg ([.int .u8 0,.int .u8 0,.int .u8 0,.int .u8 0,.int .u8 0,.int .u8 0,.int .u8 0,.int .u8 0,.int .u8 0,.int .u8 0,.int .u8 0,.int .u8 0,.int .u8 0,.int .u8 0,.int .u8 0,.int .u8 0,.int .u8 0,.int .u8 0,.int .u8 0,.int .u8 0,.int .u8 0,.int .u8 0,.int .u8 0,.int .u8 0]))/\aZ Tryd.prog 98=none:=by and_intros<;>kernel_rfl
@[simp] def Wn:TI 99 .u64 8:=by and_intros<;>kernel_rfl
@[simp] def TN:T2 100 (.func) 1:=by and_intros<;>kernel_rfl
@[simp] def TO:T5 104 (.arr 256 5) 256 (List.replicate 256 (.d (.int .u8 0))) 256 (.agg (List.replicate 256 (.int .u8 0)))/\aZ Tryd.prog 104=none:=by and_intros<;>kernel_rfl
@[simp] def TP:T5 105 (.slice 83) 1 ([.lit (.slice none 0 0)]) 24 (.list [])/\eE Tryd.prog 105=true:=by and_intros<;>kernel_rfl
@[simp] def TQ:T2 107 (.func) 1:=by and_intros<;>kernel_rfl
@[simp] def TR:T2 108 (.func) 1:=by and_intros<;>kernel_rfl
@[simp] def TS:T2 111 (.func) 1:=by and_intros<;>kernel_rfl
@[simp] def TU:T6 115 3 [.str [],.int .i64 0,.bool false] 32/\FF 115 0 0 9/\FF 115 1 1 3/\FF 115 2 2 4/\aZ Tryd.prog 115=some [(0,1),(1,1),(2,1)]/\bK Tryd.prog 115=some [.str,.int .i64,.bool]:=by and_intros<;>kernel_rfl
@[simp] def TV:T6 116 3 [.str [],.int .i64 0,.bool false] 32/\FF 116 0 0 9/\FF 116 1 1 3/\FF 116 2 2 4/\aZ Tryd.prog 116=some [(0,1),(1,1),(2,1)]/\bK Tryd.prog 116=some [.str,.int .i64,.bool]:=by and_intros<;>kernel_rfl
@[simp] def TW:T5 119 (.arr 20 99) 20 ([.d (.int .u64 0),.d (.int .u64 0),.d (.int .u64 0),.d (.int .u64 0),.d (.int .u64 0),.d (.int .u64 0),.d (.int .u64 0),.d (.int .u64 0),.d (.int .u64 0),.d (.int .u64 0),.d (.int .u64 0),.d (.int .u64 0),.d (.int .u64 0),.d (.int .u64 0),.d (.int .u64 0),.d (.int .u64 0),.d (.int .u64 0),.d (.int .u64 0),.d (.int .u64 0),.d (.int .u64 0)]) 160 (.agg ([.int .u64 0,.int .u64 0,.int .u64 0,.int .u64 0,.int .u64 0,.int .u64 0,.int .u64 0,.int .u64 0,.int .u64 0,.int .u64 0,.int .u64 0,.int .u64 0,.int .u64 0,.int .u64 0,.int .u64 0,.int .u64 0,.int .u64 0,.int .u64 0,.int .u64 0,.int .u64 0]))/\aZ Tryd.prog 119=none:=by and_intros<;>kernel_rfl
@[simp] def TX:TI 120 .u32 4:=by and_intros<;>kernel_rfl
@[simp] def TY:T5 121 (.arr 65 5) 65 (List.replicate 65 (.d (.int .u8 0))) 65 (.agg (List.replicate 65 (.int .u8 0)))/\aZ Tryd.prog 121=none:=by and_intros<;>kernel_rfl
@[simp] def TZ:T2 122 (.func) 1:=by and_intros<;>kernel_rfl
@[simp] def T0:TI 123 .u64 8:=by and_intros<;>kernel_rfl
@[simp] def T1:T2 126 (.ptr 134) 1:=by and_intros<;>kernel_rfl
@[simp] def T4:T5 131 (.slice 137) 1 ([.lit (.slice none 0 0)]) 24 (.list [])/\eE Tryd.prog 131=true:=by and_intros<;>kernel_rfl
@[simp] def T7:T5 132 (.slice 140) 1 ([.lit (.slice none 0 0)]) 24 (.list [])/\eE Tryd.prog 132=true:=by and_intros<;>kernel_rfl
@[simp] def T8:T5 133 (.struct) 3 ([.lit (.slice none 0 0),.lit (.slice none 0 0),.d (.int .i64 0)]) 56 (.agg ([.list [],.list [],.int .i64 0]))/\FF 133 0 0 131/\FF 133 1 1 132/\FF 133 2 2 3/\aZ Tryd.prog 133=some [(0,1),(1,1),(2,1)]:=by and_intros<;>kernel_rfl
@[simp] def T9:T5 134 (.struct) 3 ([.lit (.slice none 0 0),.lit (.slice none 0 0),.d (.int .i64 0)]) 56 (.agg ([.list [],.list [],.int .i64 0]))/\FF 134 0 0 131/\FF 134 1 1 132/\FF 134 2 2 3/\aZ Tryd.prog 134=some [(0,1),(1,1),(2,1)]:=by and_intros<;>kernel_rfl
@[simp] def Ua:TI 135 .u16 2:=by and_intros<;>kernel_rfl
@[simp] def Ub:T6 136 3 [.int .u16 0,.int .u16 0,.int .u16 0] 6/\FF 136 0 0 135/\FF 136 1 1 135/\FF 136 2 2 135/\aZ Tryd.prog 136=some [(0,1),(1,1),(2,1)]/\bK Tryd.prog 136=some [.int .u16,.int .u16,.int .u16]:=by and_intros<;>kernel_rfl
@[simp] def Uc:T6 137 3 [.int .u16 0,.int .u16 0,.int .u16 0] 6/\FF 137 0 0 135/\FF 137 1 1 135/\FF 137 2 2 135/\aZ Tryd.prog 137=some [(0,1),(1,1),(2,1)]/\bK Tryd.prog 137=some [.int .u16,.int .u16,.int .u16]:=by and_intros<;>kernel_rfl
@[simp] def Ud:T6 139 3 [.int .u32 0,.int .u32 0,.int .u32 0] 12/\FF 139 0 0 120/\FF 139 1 1 120/\FF 139 2 2 120/\aZ Tryd.prog 139=some [(0,1),(1,1),(2,1)]/\bK Tryd.prog 139=some [.int .u32,.int .u32,.int .u32]:=by and_intros<;>kernel_rfl
@[simp] def Ue:T6 140 3 [.int .u32 0,.int .u32 0,.int .u32 0] 12/\FF 140 0 0 120/\FF 140 1 1 120/\FF 140 2 2 120/\aZ Tryd.prog 140=some [(0,1),(1,1),(2,1)]/\bK Tryd.prog 140=some [.int .u32,.int .u32,.int .u32]:=by and_intros<;>kernel_rfl
@[simp] def Uf:T6 142 2 [.int .u8 0,.int .u8 0] 2/\FF 142 0 0 5/\FF 142 1 1 5/\aZ Tryd.prog 142=some [(0,1),(1,1)]/\bK Tryd.prog 142=some [.int .u8,.int .u8]:=by and_intros<;>kernel_rfl
@[simp] def Ug:T6 143 2 [.int .u8 0,.int .u8 0] 2/\FF 143 0 0 5/\FF 143 1 1 5/\aZ Tryd.prog 143=some [(0,1),(1,1)]/\bK Tryd.prog 143=some [.int .u8,.int .u8]:=by and_intros<;>kernel_rfl
@[simp] def Uh:T5 144 (.arr 16 143) 32 ([.d (.int .u8 0),.d (.int .u8 0),.d (.int .u8 0),.d (.int .u8 0),.d (.int .u8 0),.d (.int .u8 0),.d (.int .u8 0),.d (.int .u8 0),.d (.int .u8 0),.d (.int .u8 0),.d (.int .u8 0),.d (.int .u8 0),.d (.int .u8 0),.d (.int .u8 0),.d (.int .u8 0),.d (.int .u8 0),.d (.int .u8 0),.d (.int .u8 0),.d (.int .u8 0),.d (.int .u8 0),.d (.int .u8 0),.d (.int .u8 0),.d (.int .u8 0),.d (.int .u8 0),.d (.int .u8 0),.d (.int .u8 0),.d (.int .u8 0),.d (.int .u8 0),.d (.int .u8 0),.d (.int .u8 0),.d (.int .u8 0),.d (.int .u8 0)]) 32 (.agg ([.int .u8 0,.int .u8 0,.int .u8 0,.int .u8 0,.int .u8 0,.int .u8 0,.int .u8 0,.int .u8 0,.int .u8 0,.int .u8 0,.int .u8 0,.int .u8 0,.int .u8 0,.int .u8 0,.int .u8 0,.int .u8 0,.int .u8 0,.int .u8 0,.int .u8 0,.int .u8 0,.int .u8 0,.int .u8 0,.int .u8 0,.int .u8 0,.int .u8 0,.int .u8 0,.int .u8 0,.int .u8 0,.int .u8 0,.int .u8 0,.int .u8 0,.int .u8 0]))/\aZ Tryd.prog 144=none:=by and_intros<;>kernel_rfl
@[simp] def Ui:TI 147 .i64 8:=by and_intros<;>kernel_rfl
@[simp] def Uj:T2 150 (.ptr 161) 1:=by and_intros<;>kernel_rfl
@[simp] def Uk:T5 153 (.arr 32 5) 32 ([.d (.int .u8 0),.d (.int .u8 0),.d (.int .u8 0),.d (.int .u8 0),.d (.int .u8 0),.d (.int .u8 0),.d (.int .u8 0),.d (.int .u8 0),.d (.int .u8 0),.d (.int .u8 0),.d (.int .u8 0),.d (.int .u8 0),.d (.int .u8 0),.d (.int .u8 0),.d (.int .u8 0),.d (.int .u8 0),.d (.int .u8 0),.d (.int .u8 0),.d (.int .u8 0),.d (.int .u8 0),.d (.int .u8 0),.d (.int .u8 0),.d (.int .u8 0),.d (.int .u8 0),.d (.int .u8 0),.d (.int .u8 0),.d (.int .u8 0),.d (.int .u8 0),.d (.int .u8 0),.d (.int .u8 0),.d (.int .u8 0),.d (.int .u8 0)]) 32 (.agg ([.int .u8 0,.int .u8 0,.int .u8 0,.int .u8 0,.int .u8 0,.int .u8 0,.int .u8 0,.int .u8 0,.int .u8 0,.int .u8 0,.int .u8 0,.int .u8 0,.int .u8 0,.int .u8 0,.int .u8 0,.int .u8 0,.int .u8 0,.int .u8 0,.int .u8 0,.int .u8 0,.int .u8 0,.int .u8 0,.int .u8 0,.int .u8 0,.int .u8 0,.int .u8 0,.int .u8 0,.int .u8 0,.int .u8 0,.int .u8 0,.int .u8 0,.int .u8 0]))/\aZ Tryd.prog 153=none:=by and_intros<;>kernel_rfl
@[simp] def Ul:T5 154 (.arr 64 5) 64 (List.replicate 64 (.d (.int .u8 0))) 64 (.agg (List.replicate 64 (.int .u8 0)))/\aZ Tryd.prog 154=none:=by and_intros<;>kernel_rfl
@[simp] def Um:T2 155 (.ptr 137) 1:=by and_intros<;>kernel_rfl
@[simp] def Un:T2 156 (.ptr 140) 1:=by and_intros<;>kernel_rfl
@[simp] def Uo:T3 160 (.struct) 3 ([.d (.str []),.d (.str []),.lit .nilIface])/\FF 160 0 0 9/\FF 160 1 1 9/\FF 160 2 2 41/\aZ Tryd.prog 160=some [(0,1),(1,1),(2,1)]:=by and_intros<;>kernel_rfl
@[simp] def Up:T3 161 (.struct) 3 ([.d (.str []),.d (.str []),.lit .nilIface])/\FF 161 0 0 9/\FF 161 1 1 9/\FF 161 2 2 41/\aZ Tryd.prog 161=some [(0,1),(1,1),(2,1)]:=by and_intros<;>kernel_rfl
@[simp] def Uq:T2 164 (.ptr 166) 1:=by and_intros<;>kernel_rfl
@[simp] def Ur:T6 165 1 [.str []] 16/\FF 165 0 0 9/\aZ Tryd.prog 165=some [(0,1)]/\bK Tryd.prog 165=some [.str]:=by and_intros<;>kernel_rfl
@[simp] def Us:T6 166 1 [.str []] 16/\FF 166 0 0 9/\aZ Tryd.prog 166=some [(0,1)]/\bK Tryd.prog 166=some [.str]:=by and_intros<;>kernel_rfl
@[simp] def Ut:T3 167 (.struct) 4 ([.lit (.pointer none),.lit (.pointer none),.lit (.pointer none),.d (.str [])])/\FF 167 0 0 17/\FF 167 1 1 17/\FF 167 2 2 17/\FF 167 3 3 9/\aZ Tryd.prog 167=some [(0,1),(1,1),(2,1),(3,1)]:=by and_intros<;>kernel_rfl
@[simp] def Uu:T3 168 (.struct) 4 ([.lit (.pointer none),.lit (.pointer none),.lit (.pointer none),.d (.str [])])/\FF 168 0 0 17/\FF 168 1 1 17/\FF 168 2 2 17/\FF 168 3 3 9/\aZ Tryd.prog 168=some [(0,1),(1,1),(2,1),(3,1)]:=by and_intros<;>kernel_rfl
@[simp] def Uv:T5 169 (.arr 0 16) 0 ([]) 0 (.agg ([]))/\aZ Tryd.prog 169=none:=by and_intros<;>kernel_rfl
@[simp] def Uw:T6 170 0 [] 0/\aZ Tryd.prog 170=some [(0,0)]:=by and_intros<;>kernel_rfl
@[simp] def Ux:T6 171 0 [] 0/\aZ Tryd.prog 171=some [(0,0)]:=by and_intros<;>kernel_rfl
@[simp] def Uy:TI 173 .u8 1:=by and_intros<;>kernel_rfl
@[simp] def Uz:TI 174 .u8 1:=by and_intros<;>kernel_rfl
@[simp] def UA:T2 175 (.func) 1:=by and_intros<;>kernel_rfl
@[simp] def UB:TI 176 .i32 4:=by and_intros<;>kernel_rfl
@[simp] def UC:TI 177 .i32 4:=by and_intros<;>kernel_rfl
@[simp] def UD:T3 178 (.struct) 11 ([.d (.int .u64 0),.d (.int .u64 0),.d (.int .u32 0),.d (.int .u8 0),.d (.int .u8 0),.d (.int .u8 0),.d (.int .u8 0),.lit .nilFunc,.lit (.pointer none),.d (.int .i32 0),.d (.int .i32 0)])/\FF 178 0 0 12/\FF 178 1 1 12/\FF 178 2 2 120/\FF 178 3 3 173/\FF 178 4 4 5/\FF 178 5 5 5/\FF 178 6 6 174/\FF 178 7 7 175/\FF 178 8 8 66/\FF 178 9 9 176/\FF 178 10 10 177/\aZ Tryd.prog 178=some [(0,1),(1,1),(2,1),(3,1),(4,1),(5,1),(6,1),(7,1),(8,1),(9,1),(10,1)]:=by and_intros<;>kernel_rfl
@[simp] def UE:T3 179 (.struct) 11 ([.d (.int .u64 0),.d (.int .u64 0),.d (.int .u32 0),.d (.int .u8 0),.d (.int .u8 0),.d (.int .u8 0),.d (.int .u8 0),.lit .nilFunc,.lit (.pointer none),.d (.int .i32 0),.d (.int .i32 0)])/\FF 179 0 0 12/\FF 179 1 1 12/\FF 179 2 2 120/\FF 179 3 3 173/\FF 179 4 4 5/\FF 179 5 5 5/\FF 179 6 6 174/\FF 179 7 7 175/\FF 179 8 8 66/\FF 179 9 9 176/\FF 179 10 10 177/\aZ Tryd.prog 179=some [(0,1),(1,1),(2,1),(3,1),(4,1),(5,1),(6,1),(7,1),(8,1),(9,1),(10,1)]:=by and_intros<;>kernel_rfl
structure Tb where
 k:Nat->List Nat
 g:Nat->List Gh
 m:List Nat
 f:c8
 l:Nat->List (Nat×Nat)
 o:Nat->List (List Nat)
def rr:List Nat:=List.range 99
abbrev zk:Nat->List Nat:=λ_=>[]
abbrev za:Nat->List Nat:=λ_=>[0,0]
abbrev zg:Nat->List Gh:=λ_=>[]
abbrev zf:c8:=⟨[],false,[0],[],false⟩
abbrev zo:Nat->List (List Nat):=λ_=>[]
abbrev zl:Nat->List (Nat×Nat):=λ_=>[]
abbrev zt:Tb:=⟨zk,zg,[],zf,zl,zo⟩
abbrev fs(l:List Nat):c8:=⟨[],false,l,[],false⟩
@[simp] def Ot:Nat->List Nat
 |0|3=>[1,2]
 |1=>[1,2,19]
 |2|5|10|13|16=>[4]
 |4=>[1,2,28]
 |6=>[1,2,5,6]
 |7=>[1,2,5,35]
 |8=>[1,2,7,8,9]
 |9=>[1,53]
 |11=>[10,11]
 |12=>[10,61]
 |14=>[10,13,14]
 |15=>[10,14,15,16]
 |_=>[]
@[simp] def Ou:Nat->List Nat
 |0=>[1]
 |1=>[1,11]
 |2|10|13=>[2,3]
 |3|4=>[1,4]
 |5|11|12=>[4,23,24,25]
 |6=>[4,23,24,25,26]
 |7=>[4,6,23,24,25]
 |8=>[4,6,7,8,23,24,25]
 |9=>[4,7,23,24,25,36]
 |_=>[]
@[simp] def UF:Nat->List (List Nat)
 |4=>[rr,rr,[4,5],rr,rr,rr,[3],rr,rr,[]]
 |_=>[]
@[simp] def UG:Nat->List Gh
 |3=>[.lB 300 1 310 1000005]
 |_=>[]
@[simp] def Ov:Nat->List Nat
 |0=>[0,2]
 |1=>[0,2,14]
 |2|11|15|18|20|24|26|27=>[2,3,4]
 |3=>[0,2,5]
 |4=>[0,2,5,6]
 |5|21|22=>[2,5,6,17,18,19]
 |6=>[2,5,6,17,18,19,20]
 |7=>[2,5,6,7,8,17,18,19]
 |8|13=>[2,5,6,7,9,17,18,19]
 |9=>[2,5,6,7,9,17,18,19,35]
 |10=>[2,5,6,7,9,17,18,19,41]
 |12=>[2,5,6,7,9,17,18,19,46]
 |14=>[2,5,6,7,17,18,19,49]
 |16=>[2,5,6,7,10,11,17,18,19]
 |17=>[2,5,6,7,10,11,17,18,19,59]
 |19=>[2,5,6,7,10,17,18,19,67]
 |23=>[2,5,78]
 |25=>[2,5,82]
 |_=>[]
@[simp] def UH:Nat->List Gh
 |3=>[.lB 350 0 351 5]
 |_=>[]
@[simp] def Ow:Nat->List Nat
 |0=>[2,3]
 |1=>[2,3,26]
 |2|7|8=>[4]
 |3|5=>[2,3,5]
 |4=>[2,3,5,31]
 |6=>[2,3,5,44]
 |_=>[]
@[simp] def UI:Nat->List (List Nat)
 |6=>[rr,rr,rr,rr,rr,rr,rr,rr,rr,rr,rr]
 |_=>[]
@[simp] def UJ:Nat->List (List Nat)
 |1=>[rr,rr,rr,rr,[0],rr,[],rr]
 |_=>[]
@[simp] def UK:Nat->List Gh
 |1=>[.lB 600 3 601 1]
 |_=>[]
@[simp] def MF:Nat->List Nat
 |0=>[1,3]
 |1=>[1,3,4]
 |2=>[1,3,4,5,6]
 |3=>[1,3,4,5,6,7]
 |4|9|10|12|13|15|16|18|19|22|23|24|26|27=>[1,3,5,6,7,23]
 |5=>[1,3,5,6,7,23,24,25]
 |6=>[1,3,5,6,7,9,23]
 |7=>[1,3,5,6,7,23,27]
 |8=>[1,3,5,6,7,23,27,28]
 |11=>[1,3,5,6,7,23,27,38]
 |14=>[1,3,5,6,7,23,27,48]
 |17=>[1,3,5,6,7,23,27,58]
 |20=>[1,3,5,6,7,23,27,68]
 |21=>[1,3,5,6,7,23,72]
 |25=>[1,3,5,6,7,23,88]
 |28=>[2,3]
 |_=>[]
@[simp] def QV:Nat->List (List Nat)
 |1=>[[1,2,3,6],rr,rr,rr,rr,rr,[0,1,2,3,4,5],[]]
 |2=>[rr,rr,rr,rr,rr,[0,1,2,3,4],rr,[]]
 |23=>[rr,[0,2,3,4],rr,rr,rr,rr,rr,rr,rr,rr]
 |24=>[rr,rr,rr,rr,rr,[2,3],rr,[]]
 |28=>[rr,rr,rr,rr,rr,[]]
 |_=>[]
@[simp] def QW:Nat->List (List Nat)
 |1=>[rr,rr,rr,rr,[5,6,7,8,9],rr,rr,rr,rr,rr,[],rr]
 |_=>[]
@[simp] def MG:Nat->List Nat
 |0=>[0,1]
 |1=>[0,1,5]
 |2=>[0,1,5,6]
 |3|8|9|11=>[0,1,5,6,14]
 |4=>[0,1,5,6,14,15,16]
 |5=>[0,1,5,6,7,8,14]
 |6=>[0,1,5,6,7,14,21]
 |7=>[0,1,5,6,7,14,23]
 |10=>[0,1,5,6,7,14,33]
 |12=>[0,5,6,36]
 |13=>[0,5]
 |14=>[0,5,9]
 |15|18|19=>[0,9,47,48,49]
 |16=>[0,9,47,48,49,50]
 |17=>[0,9,10,11,47,48,49]
 |20=>[4]
 |_=>[]
@[simp] def MH:Nat->List Nat
 |0=>[0,2]
 |1=>[0,2,4]
 |2|4=>[0,2,4,5]
 |3=>[0,2,4,5,16]
 |5=>[0,2,4,5,6]
 |6=>[0,2,4,5,6,7]
 |7|11|12=>[0,2,4,5,6,7,20,21]
 |8=>[0,2,4,5,6,7,20,21,22]
 |9=>[0,2,4,5,6,7,8,20,21]
 |10=>[0,2,4,5,6,7,8,20,21,30]
 |13=>[0,2,5,6,7,46]
 |14|21|22=>[2,3]
 |15=>[0,2,5,6,7]
 |16=>[0,2,5,56]
 |17=>[0,2,5,56,57,58]
 |18=>[0,2,5,9,10,56]
 |19=>[0,2,5,11,56]
 |20=>[0,2,5,11,56,69]
 |_=>[]
@[simp] def MI:Nat->List Nat
 |0=>[0]
 |1=>[0,3]
 |2=>[0,3,4]
 |3=>[0,3,51]
 |4|9|11=>[2]
 |5|10=>[0,53,54,55]
 |6=>[0,53,54,55,56]
 |7=>[0,5,6,53,54,55]
 |8=>[0,53,54,55,64]
 |_=>[]
@[simp] def MJ:Nat->List Nat
 |0=>[0]
 |1|5|6=>[0,11,12,13]
 |2=>[0,11,12,13,14]
 |3=>[0,4,11,12,13]
 |4=>[0,4,11,12,13,24]
 |7|12=>[0,37,38,39]
 |8=>[0,37,38,39,40]
 |9=>[0,5,6,37,38,39]
 |10=>[0,37,38,39,61]
 |11|13=>[2]
 |_=>[]
@[simp] def QX:Nat->List (List Nat)
 |5=>[rr,rr,rr,rr,rr,rr,rr,[]]
 |_=>[]
@[simp] def MK:Nat->List Nat
 |0=>[0]
 |1=>[0,3]
 |2|7=>[0,3,17,18]
 |3=>[0,3,17,18,19]
 |4=>[0,3,4,17,18]
 |5=>[0,3,17,18,24]
 |6|8=>[2]
 |_=>[]
@[simp] def ML:Nat->List Nat
 |1=>[0]
 |_=>[]
@[simp] def MM:Nat->List Nat
 |1=>[0]
 |_=>[]
@[simp] def MN:Nat->List Nat
 |0|6|7=>[0,1,2,3]
 |1=>[0,1,2,3,13]
 |2|4|18=>[8]
 |3=>[0,1,2,3,15]
 |5=>[0,1,2,3,20]
 |8|9=>[0,1,2,3,9]
 |10|15|16=>[0,1,2,3,9,10]
 |11=>[0,1,2,3,9,10,36]
 |12|14=>[0,1,2,3,9,10,11]
 |13=>[0,1,2,3,9,10,11,41]
 |17=>[9,10]
 |_=>[]
@[simp] def MO:Nat->List Nat
 |0=>[0,1,2]
 |1=>[0,1,2,7]
 |2=>[0,2,7,9]
 |3=>[0,2,7,9,10]
 |4|6|8|10|15=>[7]
 |5=>[0,2,7,9,20]
 |7=>[0,2,7,9,30]
 |9=>[0,2,7,9,40]
 |11=>[0,2,7,9,50]
 |12=>[0,7,8]
 |13=>[0,7,8,56]
 |14|19|21|22=>[6]
 |16=>[0,2,7,62]
 |17=>[0,7]
 |18=>[7,73]
 |20=>[75]
 |_=>[]
@[simp] def MP:Nat->List Nat
 |0=>[0,1,5]
 |1=>[0,1,5,7]
 |2=>[0,1,5,7,17]
 |3|4=>[0,1,5,7,17,18]
 |5|10|12|16|18|21|24|26|27=>[6]
 |6|7|8|9=>[0,1,5,7,17,21]
 |11=>[0,1,5,7,17,30]
 |13|14|15=>[0,1,5,7,17,42]
 |17=>[0,1,5,7,17,49]
 |19|20=>[0,1,5,7,17,53]
 |22=>[0,1,5,7,17,65]
 |23=>[0,5,8]
 |25=>[1,7,80]
 |_=>[]
@[simp] def MQ:Nat->List Nat
 |0=>[0,3]
 |1=>[0,3,7]
 |2=>[0,3,7,8]
 |3|5|9|11|13|15|17|22|24|25=>[4]
 |4=>[0,3,7,20]
 |6|7|8=>[0,3,7,24]
 |10=>[0,3,7,30]
 |12=>[0,3,7,38]
 |14=>[0,3,7,46]
 |16=>[0,3,7,50]
 |18=>[0,3,7,54]
 |19|21=>[0,3,5]
 |20=>[0,3,5,63]
 |23=>[0,82]
 |_=>[]
@[simp] def MR:Nat->List Nat
 |0|3=>[0,1,2]
 |1=>[0,1,2,13]
 |2|9|12=>[6]
 |4=>[0,1,2,31]
 |5|10=>[0,1,2,41,42,43]
 |6=>[0,1,2,41,42,43,44]
 |7=>[0,1,2,8,41,42,43]
 |8=>[0,1,2,41,42,43,62]
 |_=>[]
@[simp] def MS:Nat->List Nat
 |0=>[0]
 |1=>[0,3]
 |2=>[0,3,4]
 |3=>[0,3,4,5]
 |4|6|11=>[0,3,4,5,6]
 |5=>[0,3,4,5,6,16]
 |7|8=>[0,3,4,5,6,7]
 |9=>[0,3,4,5,6,8]
 |10=>[0,3,5,6,8]
 |12=>[0,3,37]
 |13|32=>[2]
 |14=>[0,9]
 |15|16=>[0,9,10]
 |17|19|24|25|26|28=>[0,9,10,12]
 |18=>[0,9,10,12,53]
 |20|23|29=>[0,9,10,11,12]
 |21=>[0,9,10,11,12,60]
 |22=>[0,9,10,11,12,66]
 |27=>[0,9,10,12,91]
 |30=>[0,9,10,11,98]
 |31=>[9]
 |_=>[]
@[simp] def MT:Nat->List Nat
 |0|3=>[0,1]
 |1=>[0,1,5]
 |2=>[0,1,5,18]
 |4=>[0,1,6]
 |5|7|10=>[0,1,6,7]
 |6=>[0,1,6,7,25]
 |8|9=>[0,1,6,7,9]
 |11=>[0,1,6,43]
 |12=>[6]
 |13=>[4]
 |_=>[]
@[simp] def MU:Nat->List Nat
 |0=>[0,1]
 |1=>[0,1,9]
 |2|4|8=>[4]
 |3=>[0,1,15]
 |5|10=>[0,1,5]
 |6|9=>[0,1,5,6]
 |7=>[0,1,5,6,24]
 |_=>[]
@[simp] def MV:Nat->List Nat
 |0=>[0,1]
 |1|6=>[0,1,7,8]
 |2=>[0,1,7,8,9]
 |3=>[0,1,5,7,8]
 |4=>[0,1,5,7,8,16]
 |5|7=>[4]
 |_=>[]
@[simp] def MW:Nat->List Nat
 |0=>[0]
 |1=>[3,4]
 |2=>[3,12]
 |3|9=>[2]
 |4=>[3,5]
 |5|7|8=>[5,21,22]
 |6=>[5,21,22,23]
 |_=>[]
@[simp] def QY:Nat->List (List Nat)
 |4=>[rr,rr,[3,4],rr,rr,[],[],rr]
 |_=>[]
@[simp] def MX:Nat->List Nat
 |0=>[0,1,2]
 |1=>[0,1,2,15]
 |2|7|10=>[6]
 |3|8=>[0,1,2,27,28,29]
 |4=>[0,1,2,27,28,29,30]
 |5=>[0,1,2,8,27,28,29]
 |6=>[0,1,2,27,28,29,37]
 |_=>[]
@[simp] def QZ:Nat->List (List Nat)
 |3=>[rr,rr,rr,rr,rr,rr,rr,rr,rr,rr,rr,[13],rr,rr]
 |9=>[rr,rr,rr,rr,rr,rr,rr,rr,rr,rr,rr,rr,[0],rr,rr,[]]
 |_=>[]
@[simp] def MY:Nat->List Nat
 |0|10|11=>[0,1,4]
 |1=>[0,1,4,20]
 |2|3=>[0,1,4,5]
 |4=>[0,1,4,6,7]
 |5=>[0,1,4,6,8,9]
 |6=>[0,1,4,8,9,10,11]
 |7=>[0,1,4,8,10,11]
 |8=>[0,1,4,10,11]
 |9=>[0,1,4,10]
 |12|18|19|23|24=>[0,4,12]
 |13=>[0,4,12,99]
 |14|15=>[0,4,12,13]
 |16=>[0,4,12,14,15]
 |17=>[0,4,12,14]
 |20=>[0,4,12,139]
 |21|22=>[0,4,12,16]
 |25=>[0,12,161]
 |_=>[]
@[simp] def Q0:Nat->List (List Nat)
 |7=>[rr,rr,rr,rr,rr,rr,rr,rr,rr,rr,rr,rr,[3,4,5,9,10],rr,[]]
 |8=>[rr,rr,rr,rr,rr,rr,rr,rr,rr,rr,rr,rr,[3,4,5,9,10],rr,[]]
 |9=>[rr,rr,rr,rr,rr,rr,rr,rr,rr,rr,rr,rr,[3,4,5,9,10],rr,[]]
 |10=>[rr,rr,rr,rr,rr,rr,rr,rr,rr,rr,rr,rr,[3,4,5,9,10],rr,[]]
 |17=>[rr,rr,rr,rr,rr,rr,rr,rr,rr,rr,rr,rr,[3,4,5,9,10],rr,[]]
 |18=>[rr,rr,rr,rr,rr,rr,rr,rr,rr,rr,rr,rr,[3,4,5,9,10],rr,[]]
 |23=>[rr,rr,rr,rr,rr,rr,rr,rr,rr,rr,rr,rr,[3,4,5,9,10],rr,[]]
 |_=>[]
@[simp] def MZ:Nat->List Nat
 |0|2=>[0,1,2,3,4,10,11]
 |1=>[0,1,2,3,4,10,11,28]
 |3=>[0,1,2,3,4,10,11,12]
 |4|6=>[0,1,2,3,4,10,11,12,13]
 |5=>[0,1,2,3,4,10,11,12,13,30]
 |7=>[0,1,2,3,4,10,11,12,13,34]
 |8=>[0,1,2,3,4,10,11,12,13,14]
 |9=>[0,1,2,3,4,10,11,12,13,14,15]
 |10|12|13|14=>[0,1,3,4,10,11,12,13,14,15,16]
 |11=>[0,1,3,4,10,11,12,13,14,15,16,46]
 |15|23=>[0,1,3,4,10,11,12,13]
 |16|24=>[0,3,4,10,11,12,13]
 |17|19|22=>[0,1,3,4,10,11,12,13,17]
 |18=>[0,1,3,4,10,11,12,13,17,68]
 |20=>[0,1,3,4,10,11,12,13,17,18]
 |21=>[0,3,4,10,11,12,13,17,18]
 |25=>[0,4,10,11,12,13,89]
 |26|27=>[0,4,10,11,12,13]
 |28=>[0,10,11,12,13,94]
 |29|30=>[10,11]
 |_=>[]
@[simp] def M0:Nat->List Nat
 |1=>[0]
 |_=>[]
@[simp] def M1:Nat->List Nat
 |0=>[0,1]
 |1|6=>[0,1,7,8]
 |2=>[0,1,7,8,9]
 |3=>[0,1,5,7,8]
 |4=>[0,1,5,7,8,16]
 |5|7=>[4]
 |_=>[]
@[simp] def M3:Nat->List Nat
 |0=>[0,2]
 |1|3=>[2,4]
 |2=>[2,4,6]
 |4=>[2]
 |_=>[]
@[simp] def M4:Nat->List Nat
 |0=>[0,1]
 |1=>[0,1,5]
 |2=>[0,1,5,16]
 |3|5|7|9|19|22|28|29|33|34|35=>[4]
 |4=>[0,1,5,24]
 |6=>[0,1,5,31]
 |8=>[0,1,5,36]
 |10=>[0,1,5,6]
 |11=>[0,1,5,6,7]
 |12=>[0,1,5,6,7,8]
 |13=>[0,1,5,6,7,8,9]
 |14|20|23|24=>[0,1,5,6,7,8,9,10]
 |15=>[0,1,5,6,7,8,9,10,59]
 |16=>[0,1,5,6,7,8,9,10,64]
 |17=>[0,1,5,6,7,8,9,10,11]
 |18=>[0,1,5,6,7,8,9,10,11,73]
 |21=>[0,1,5,6,7,8,9,10,93]
 |25=>[0,1,5,6,7,8,9,10,107]
 |26=>[8,12]
 |27=>[8,12,114]
 |30=>[0,1,5,6,7,8,9,10,132]
 |31=>[8,13]
 |32=>[8,13,139]
 |_=>[]
@[simp] def M5:Nat->List Nat
 |0=>[0,1]
 |1=>[0,1,5]
 |2|9|10=>[1,5,12,13,14]
 |3=>[1,5,12,13,14,15]
 |4=>[1,5,7,12,13,14]
 |5=>[1,5,7,8,12,13,14]
 |6=>[1,5,8,9,10,12,13,14]
 |7=>[1,5,8,9,12,13,14,26]
 |8=>[1,5,8,12,13,14]
 |11=>[4]
 |_=>[]
@[simp] def M6:Nat->List Nat
 |0=>[0]
 |1=>[0,4]
 |2=>[0,4,16]
 |3|8|12|15|17|20|22|25|26=>[2,3]
 |4=>[0,4,5]
 |5=>[0,4,5,6]
 |6=>[0,4,5,6,23]
 |7=>[0,7]
 |9=>[0,4,5,6,8]
 |10=>[0,4,5,8,9]
 |11=>[0,5,8,9,45]
 |13=>[0,5,8,9,10]
 |14=>[0,5,8,10,57]
 |16=>[0,5,8,10,59]
 |18=>[0,5,8,10,11]
 |19=>[0,5,8,10,11,75]
 |21=>[0,5,10,11,77]
 |23=>[5,10,11,12]
 |24=>[5,10,11,12,98]
 |_=>[]
@[simp] def M7:Nat->List Nat
 |0=>[0,1]
 |1=>[0,1,5,6]
 |2=>[0,1,5,6,7]
 |3=>[0,1,5,6,7,8]
 |4|6|7=>[0,1,5,6,7,8,9]
 |5=>[0,1,5,6,7,8,9,20]
 |8=>[0,1,5,6,7,8,39]
 |9|17|18=>[4]
 |10|12|13|14|15=>[0,1,5,6,7,8,10]
 |11=>[0,1,5,6,7,8,10,44]
 |16=>[0,1,5,6,7,8,10,77]
 |_=>[]
@[simp] def M8:Nat->List Nat
 |0|8=>[0,1,2]
 |1=>[0,1,2,13]
 |2|13|18|20|24=>[6,7]
 |3|6|9|10=>[0,1,2,8]
 |4=>[0,1,2,8,16]
 |5=>[0,1,2,8,16,17]
 |7=>[0,1,2,8,21]
 |11=>[2,7,8,9]
 |12=>[2,7,8,9,38]
 |14=>[2,8,9,41]
 |15=>[2,8,9]
 |16=>[8,9,10]
 |17=>[8,9,10,52]
 |19=>[8,9,10,62]
 |21=>[8,11]
 |22=>[11,69]
 |23=>[11]
 |_=>[]
@[simp] def M9:Nat->List Nat
 |0=>[0,1]
 |1=>[0,1,17]
 |2|10=>[0,1,19,20]
 |3=>[0,1,19,20,21]
 |4=>[0,1,5,19,20]
 |5=>[0,1,6,19,20]
 |6=>[0,1,6,19,20,31]
 |7|9|11|18|22=>[4]
 |8=>[0,1,6,19,20,37]
 |12=>[0,1,7]
 |13|20|21=>[0,1,7,8]
 |14=>[0,1,7,8,62]
 |15=>[0,1,7,8,9]
 |16=>[0,1,7,8,9,10]
 |17=>[0,1,7,8,9,10,85]
 |19=>[0,1,7,8,9,110]
 |_=>[]
@[simp] def Q1:Nat->List (List Nat)
 |9=>[rr,rr,rr,rr,rr,rr,rr,rr,rr,rr,rr,rr,rr,rr,rr,rr,rr,rr,rr,rr]
 |18=>[rr,rr,rr,rr,rr,rr,rr,rr,rr,rr,rr,rr,rr,rr,rr,rr,rr,rr,rr,rr]
 |_=>[]
@[simp] def Na:Nat->List Nat
 |0=>[0,1]
 |1=>[0,1,13]
 |2|10=>[0,1,15,16]
 |3=>[0,1,15,16,17]
 |4=>[0,1,5,15,16]
 |5=>[0,1,6,15,16]
 |6=>[0,1,6,15,16,27]
 |7|9|11|18|22=>[4]
 |8=>[0,1,6,15,16,33]
 |12=>[0,1,7]
 |13|20|21=>[0,1,7,8]
 |14=>[0,1,7,8,58]
 |15=>[0,1,7,8,9]
 |16=>[0,1,7,8,9,10]
 |17=>[0,1,7,8,9,10,78]
 |19=>[0,1,7,8,9,95]
 |_=>[]
@[simp] def Q2:Nat->List (List Nat)
 |9=>[rr,rr,rr,rr,rr,rr,rr,rr,rr,rr,rr,rr,rr,rr,rr,rr,rr,rr,rr,rr]
 |_=>[]
@[simp] def Nb:Nat->List Nat
 |0=>[0]
 |1=>[0,4]
 |2|4|5=>[0,4,5]
 |3=>[0,4,5,12]
 |6=>[0,4,6,7]
 |7|9|11|12=>[4,6,7,8]
 |8=>[4,6,7,8,25]
 |10=>[4,6,7,8,30]
 |13=>[2,3]
 |_=>[]
@[simp] def Nc:Nat->List Nat
 |0=>[0,1,2]
 |1=>[0,1,2,19]
 |2|5|24|39|47|49|53|57|58=>[6,7]
 |3=>[0,1,2,8]
 |4|8|10|11|13|14|16|17|19|20|22|25=>[0,1,2,8,9]
 |6=>[0,1,2,8,9,25]
 |7=>[0,2,8,9,32]
 |9=>[0,1,2,8,9,37]
 |12=>[0,2,8,9,40]
 |15=>[0,2,8,9,52]
 |18=>[0,2,8,9,64]
 |21=>[0,1,2,8,9,77]
 |23=>[0,1,2,8,9,83]
 |26=>[0,1,2,8,9,85]
 |27|29|31=>[0,1,2,8,9,10]
 |28=>[0,1,2,8,9,85,90]
 |30=>[0,1,2,8,9,92]
 |32=>[0,1,8,9,10,11]
 |33=>[0,1,8,9,10,11,12]
 |34=>[0,1,8,9,10,11,12,13]
 |35|41|54|55=>[1,8,9,10,11,12,13,99,100,101]
 |36=>[1,8,9,10,11,12,13,99,100,101,102]
 |37|38=>[1,8,9,10,11,12,13,15,99,100,101]
 |40=>[1,8,9,10,11,12,13,15,99,100,101,106]
 |42=>[1,8,9,10,11,12,13,15,99,100,101,112]
 |43|45|50=>[1,8,9,10,11,12,13,16,99,100,101]
 |44=>[1,8,9,10,11,12,13,15,99,100,101,121]
 |46=>[1,8,9,10,11,12,13,16,99,100,101,137]
 |48=>[1,8,9,10,11,12,13,16,99,100,101,141]
 |51=>[1,8,9,10,11,12,13,17,99,100,101]
 |52=>[1,8,9,10,11,12,17,99,100,101,159]
 |56=>[13,169]
 |_=>[]
@[simp] def Q3:Nat->List (List Nat)
 |1=>[rr,rr,[0,3],rr,rr,[],rr]
 |_=>[]
@[simp] def Q4:Nat->List (List Nat)
 |1=>[rr,rr,[0,3],rr,rr,[],rr]
 |_=>[]
@[simp] def Nd:Nat->List Nat
 |0=>[0]
 |1=>[0,3]
 |2|4|8=>[0,3,4]
 |3=>[0,3,4,18]
 |5|9|11|13|17|20=>[0,3,4,5]
 |6=>[0,3,4,5,46]
 |7=>[0,4]
 |10=>[0,3,4,5,54]
 |12=>[0,3,4,5,83]
 |14=>[0,3,4,5,87]
 |15=>[0,4,5,89]
 |16|19|21=>[2]
 |18=>[0,4,5,91]
 |_=>[]
end Go.Am
end
section
namespace Go.Am
open Go
open Go.Proofs Go.Proofs.Tryd
set_option maxRecDepth 10000
@[simp] noncomputable def UL:Nat->Tb
 |3=>⟨Ot,zg,[9,16],fs [200,450,600,850],zl,zo⟩
 |4=>⟨za,zg,[],fs [250],zl,zo⟩
 |5=>⟨Ou,UG,[],fs [150,300,310,400,500],zl,UF⟩
 |6=>⟨Ov,UH,[9],fs [200,350,351,600],zl,zo⟩
 |7=>⟨Ow,zg,[],fs [200,250],zl,UI⟩
 |8=>⟨za,UK,[2],fs [150,500,600,601],zl,UJ⟩
 |9=>⟨za,zg,[],⟨[1],false,[],[],false⟩,zl,zo⟩
 |10=>⟨za,zg,[],fs [],zl,zo⟩
 |11=>⟨MF,zg,[],fs [150,250,300,400,1250],zl,QV⟩
 |12=>⟨za,zg,[],⟨[1],false,[],[],false⟩,zl,QW⟩
 |13=>⟨za,zg,[],fs [],zl,zo⟩
 |14=>⟨MG,zg,[],fs [650,700,800,2400],zl,zo⟩
 |15=>⟨za,zg,[],fs [],zl,zo⟩
 |_=>zt
@[simp] noncomputable def UM:Nat->Tb
 |0=>⟨za,zg,[],⟨[1],false,[],[],false⟩,zl,zo⟩
 |1=>⟨MH,zg,[13],fs [200,350,2900],zl,zo⟩
 |2=>⟨MI,zg,[3],⟨[1,2],false,[250,400],[],false⟩,zl,zo⟩
 |3=>⟨MJ,zg,[10],fs [300,400],zl,QX⟩
 |4=>⟨MK,zg,[],⟨[1,2],false,[650],[],false⟩,zl,zo⟩
 |5=>⟨za,zg,[],⟨[1],false,[],[],false⟩,zl,zo⟩
 |6=>⟨za,zg,[],fs [],zl,zo⟩
 |7=>⟨ML,zg,[],fs [],zl,zo⟩
 |8=>⟨MM,zg,[],fs [],zl,zo⟩
 |9=>⟨za,zg,[],fs [250],zl,zo⟩
 |10=>⟨MN,zg,[],fs [1650],zl,zo⟩
 |11=>⟨za,zg,[],fs [],zl,zo⟩
 |12=>⟨MO,zg,[],fs [],zl,zo⟩
 |13=>⟨MP,zg,[12,24],⟨[1,2],false,[350],[],false⟩,zl,zo⟩
 |14=>⟨za,zg,[],⟨[1,2],false,[],[],false⟩,zl,zo⟩
 |15=>⟨MQ,zg,[11,13,22,24],⟨[2],false,[250],[],false⟩,zl,zo⟩
 |_=>zt
@[simp] noncomputable def UN:Nat->Tb
 |0=>⟨MR,zg,[8],⟨[1,2,3],false,[],[2],false⟩,zl,zo⟩
 |2=>⟨za,zg,[],fs [350],zl,zo⟩
 |3=>⟨MS,zg,[18,27],fs [2150],zl,zo⟩
 |4=>⟨za,zg,[],fs [150,200],zl,zo⟩
 |5=>⟨MT,zg,[],fs [1150],zl,zo⟩
 |6=>⟨MU,zg,[],fs [],zl,zo⟩
 |7=>⟨za,zg,[],fs [],zl,zo⟩
 |8=>⟨za,zg,[2],fs [],zl,zo⟩
 |9=>⟨MV,zg,[],fs [],zl,zo⟩
 |10=>⟨za,zg,[],fs [150],zl,zo⟩
 |11=>⟨za,zg,[],⟨[1,2],false,[],[],false⟩,zl,zo⟩
 |12=>⟨za,zg,[1],⟨[1,2],false,[250],[],false⟩,zl,zo⟩
 |13=>⟨za,zg,[2,4],fs [150],zl,zo⟩
 |14=>⟨MW,zg,[],fs [250,851],zl,QY⟩
 |15=>⟨za,zg,[],⟨[2],false,[],[],false⟩,zl,zo⟩
 |_=>zt
@[simp] noncomputable def UO:Nat->Tb
 |0=>⟨MX,zg,[],⟨[2],false,[],[],false⟩,zl,QZ⟩
 |1=>⟨za,zg,[],fs [250],zl,zo⟩
 |2=>⟨za,zg,[],fs [],zl,zo⟩
 |3=>⟨za,zg,[],fs [],zl,zo⟩
 |4=>⟨MY,zg,[],⟨[0],false,[],[0],false⟩,zl,Q0⟩
 |5=>⟨MZ,zg,[],fs [600,700],zl,zo⟩
 |6=>⟨za,zg,[],fs [],zl,zo⟩
 |7=>⟨M0,zg,[],fs [],zl,zo⟩
 |8=>⟨M1,zg,[],fs [],zl,zo⟩
 |9=>⟨za,zg,[],fs [200],zl,zo⟩
 |10=>⟨M3,zg,[],fs [300],zl,zo⟩
 |11=>⟨za,zg,[1],fs [],zl,zo⟩
 |13=>⟨M4,zg,[21,25],fs [],zl,zo⟩
 |14=>⟨za,zg,[],fs [],zl,zo⟩
 |15=>⟨za,zg,[],fs [200],zl,zo⟩
 |_=>zt
@[simp] noncomputable def UP:Nat->Tb
 |0=>⟨M5,zg,[],⟨[],true,[300,350,500],[],false⟩,zl,zo⟩
 |1=>⟨za,zg,[],fs [],zl,zo⟩
 |2=>⟨za,zg,[],fs [],zl,zo⟩
 |3=>⟨za,zg,[],fs [],zl,zo⟩
 |4=>⟨za,zg,[],fs [],zl,zo⟩
 |5=>⟨za,zg,[],fs [],zl,zo⟩
 |6=>⟨za,zg,[3,6],fs [],zl,zo⟩
 |7=>⟨M6,zg,[],fs [550],zl,zo⟩
 |8=>⟨za,zg,[],fs [],zl,zo⟩
 |10=>⟨za,zg,[],fs [],zl,zo⟩
 |11=>⟨M7,zg,[8,16],fs [],zl,zo⟩
 |12=>⟨M8,zg,[],fs [],zl,zo⟩
 |13=>⟨za,zg,[],fs [],zl,zo⟩
 |14=>⟨za,zg,[],fs [],zl,zo⟩
 |15=>⟨za,zg,[],fs [],zl,zo⟩
 |_=>zt
@[simp] noncomputable def UQ:Nat->Tb
 |0=>⟨za,zg,[],fs [],zl,zo⟩
 |1=>⟨M9,zg,[],fs [],zl,Q1⟩
 |2=>⟨Na,zg,[],fs [600],zl,Q2⟩
 |4=>⟨Nb,zg,[],fs [],zl,zo⟩
 |5=>⟨Nc,zg,[12,15,18,44,56],fs [],zl,zo⟩
 |6=>⟨za,zg,[],fs [600],zl,Q3⟩
 |7=>⟨za,zg,[],fs [600],zl,Q4⟩
 |8=>⟨za,zg,[],fs [850],zl,zo⟩
 |9=>⟨za,zg,[],fs [850],zl,zo⟩
 |10=>⟨za,zg,[],fs [],zl,zo⟩
 |11=>⟨za,zg,[],fs [],zl,zo⟩
 |12=>⟨Nd,zg,[3,6,12],fs [],zl,zo⟩
 |13=>⟨za,zg,[],fs [550],zl,zo⟩
 |14=>⟨za,zg,[],fs [350],zl,zo⟩
 |15=>⟨za,zg,[],fs [],zl,zo⟩
 |_=>zt
@[simp] noncomputable def UR:Nat->Tb
 |0=>⟨za,zg,[1],fs [],zl,zo⟩
 |1=>⟨za,zg,[],fs [],zl,zo⟩
 |_=>zt
@[simp] noncomputable def US:Nat->Nat->Tb
 |0=>UL
 |1=>UM
 |2=>UN
 |3=>UO
 |4=>UP
 |5=>UQ
 |6=>UR
 |_=>λ_=>zt
@[simp] noncomputable def mF(n:Nat):Tb:=US (n/16) (n%16)
def dI:Type:=Int
variable [Inhabited dI]
def kB:List Int:=[1,10,100,1000,10000,100000,1000000,10000000,100000000,1000000000,10000000000,100000000000,1000000000000,10000000000000,100000000000000,1000000000000000,10000000000000000,100000000000000000,1000000000000000000,10000000000000000000]
def xT:List Int:=[0,0,0,0,0,0,0,0,0,1,1,1,1,1,0,0,0,0,0,0,0,0,0,0,0,0,0,0,0,0,0,0,1,0,0,0,0,0,0,0,0,0,0,0,0,0,0,0,0,0,0,0,0,0,0,0,0,0,0,0,0,0,0,0,0,0,0,0,0,0,0,0,0,0,0,0,0,0,0,0,0,0,0,0,0,0,0,0,0,0,0,0,0,0,0,0,0,0,0,0,0,0,0,0,0,0,0,0,0,0,0,0,0,0,0,0,0,0,0,0,0,0,0,0,0,0,0,0,0,0,0,0,0,0,0,0,0,0,0,0,0,0,0,0,0,0,0,0,0,0,0,0,0,0,0,0,0,0,0,0,0,0,0,0,0,0,0,0,0,0,0,0,0,0,0,0,0,0,0,0,0,0,0,0,0,0,0,0,0,0,0,0,0,0,0,0,0,0,0,0,0,0,0,0,0,0,0,0,0,0,0,0,0,0,0,0,0,0,0,0,0,0,0,0,0,0,0,0,0,0,0,0,0,0,0,0,0,0,0,0,0,0,0,0,0,0,0,0,0,0,0,0,0,0,0,0]
def cB:List (Nat×D):=[(1,.agg (kB.map λz=>.int .u64 z)),(0,.agg (xT.map λz=>.int .u8 z)),(3,.int .i64 (id (α:=Int) (default:dI))),(8,.jd),(9,.jd)]
@[simp] def UT:vC cB 1=some (.agg (kB.map λz=>.int .u64 z)):=rfl
@[simp] def Wo:vC cB 0=some (.agg (xT.map λz=>.int .u8 z)):=rfl
def Ie:FuncId->Option (List AV->Option AV)
 |13=>some (iT pN)
 |14=>some (CJ 15 32)
 |22=>some (iT Gb)
 |62=>some (Gd)
 |95=>some (iT Gc)
 |_=>none
noncomputable def ctx:Ctx:=⟨Tryd.prog,cB,λf=>(mF f).k,λf=>(mF f).g,λf r=>(mF f).m.contains r,λf=>(mF f).f,λf=>(mF f).o,Ie,λf=>(mF f).l,none⟩
@[simp] def Wp:ctx.P=Tryd.prog:=rfl
@[simp] def UU:ctx.gl=cB:=rfl
@[simp] def Q5(f:FuncId):ctx.kg f=(mF f).k:=rfl
@[simp] def UW(f:FuncId):ctx.gh f=(mF f).g:=rfl
@[simp] def UX(f:FuncId):ctx.md f=(mF f).m.contains:=rfl
@[simp] def UY(f:FuncId):ctx.fp f=(mF f).f:=rfl
@[simp] def UZ(f:FuncId):ctx.fl f=(mF f).l:=rfl
@[simp] def U0(f:FuncId):ctx.od f=(mF f).o:=rfl
@[simp] def codeOf(fn:Func):Code:=fn.body.getD .skip
abbrev RF(n c:Nat)(fn:Func)(rs:List ResultVar):Prop:=∀{args:List AV}{cs:List ay},wQ c (mF n).f args cs=true->ar ctx n args cs=bn ctx n (codeOf fn) (entry c cB args cs (mF n).f.sites) (xM Tryd.prog (mF n).f cs.length rs)
def cG{n c:Nat}{fn:Func}{rs:List ResultVar}(A:Tryd.prog.funcs[n]?=some fn:=by kernel_rfl)(E:fn.ntmps=c:=by kernel_rfl)(H:fn.results.toList=rs:=by kernel_rfl)(I:fn.body=some (codeOf fn):=by rfl)(J:qy (codeOf fn)=false:=by kernel_rfl)(M:ctx.rD n=none:=by rfl)(N:(mF n).f.split=false:=by rfl):RF n c fn rs:=λh=>H5 rfl M A I J E H rfl N h
def Q6:RF 3 88 f3 [.tmp 4]:=cG
def Q7:RF 4 37 f4 [.tmp 0]:=cG
def Q8:RF 5 42 f5 [.tmp 2,.tmp 3]:=cG
def Q9:RF 6 88 f6 [.cell 2 24,.tmp 3,.tmp 4]:=cG
def Ra:RF 7 45 f7 [.tmp 4]:=cG
def Rb:RF 8 22 f8 [.tmp 2]:=cG
def Nf:RF 9 19 f9 [.tmp 4,.tmp 5]:=cG
def Ox:RF 10 6 f10 [.tmp 2]:=cG
def Oy:RF 11 103 f11 [.tmp 2,.cell 3 34]:=cG
def Oz:RF 12 14 f12 [.tmp 2]:=cG
@[simp] def GA{args:List AV}{cs:List ay}:ar ctx 13 args cs=fa (iT pN) args cs:=mg rfl rfl
@[simp] def cM{args:List AV}{cs:List ay}:ar ctx 14 args cs=fa (CJ 15 32) args cs:=mg rfl rfl
def OA:RF 16 34 f16 [.tmp 4]:=cG
def OB:RF 17 73 f17 [.cell 2 34,.tmp 3]:=cG
def OC:RF 18 66 f18 [.tmp 2]:=cG
def OD:RF 19 63 f19 [.tmp 2]:=cG
def OE:RF 20 26 f20 [.tmp 2]:=cG
def Ju:RF 21 20 f21 []:=cG
@[simp] def PX{args:List AV}{cs:List ay}:ar ctx 22 args cs=fa (iT Gb) args cs:=mg rfl rfl
def OF:RF 27 22 f27 [.tmp 2,.tmp 3]:=cG
def OG:RF 28 76 f28 [.tmp 6]:=cG
def OH:RF 29 85 f29 [.tmp 6]:=cG
def OI:RF 30 9 f30 [.tmp 2]:=cG
def OJ:RF 31 92 f31 [.tmp 4]:=cG
def OK:RF 32 67 f32 [.tmp 6]:=cG
def OL:RF 36 17 f36 [.cell 2 83,.tmp 3]:=cG
def OM:RF 40 20 f40 [.tmp 2,.tmp 3]:=cG
def ON:RF 41 19 f41 [.tmp 4]:=cG
def OO:RF 42 16 f42 [.tmp 2]:=cG
def OP:RF 43 33 f43 [.tmp 6]:=cG
def OQ:RF 44 32 f44 [.tmp 4]:=cG
def OR:RF 45 47 f45 [.tmp 2]:=cG
def OS:RF 46 30 f46 [.tmp 2]:=cG
def OT:RF 47 21 f47 [.tmp 4]:=cG
def OU:RF 48 54 f48 [.tmp 6]:=cG
def OV:RF 49 24 f49 [.tmp 4]:=cG
def Jv:RF 56 19 f56 [.tmp 4]:=cG
def OW:RF 57 8 f57 [.tmp 3]:=cG
@[simp] def PY{args:List AV}{cs:List ay}:ar ctx 62 args cs=fa (Gd) args cs:=mg rfl rfl
def OX:RF 63 8 f63 [.tmp 3]:=cG
@[simp] def PZ{args:List AV}{cs:List ay}:ar ctx 95 args cs=fa (iT Gc) args cs:=mg rfl rfl
end Go.Am
end
