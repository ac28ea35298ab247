/-
  Texts of one proof, one behind the other.
-/
import Derived.Test.YtdjlcobfpppbbaaGreatDoorT3
import Derived.Test.YtdjlcobfpppbbaaGreatDoorProg
import Derived.KernelRfl
import Derived.Lib.Bytealg
import Derived.Lib.Index
import Derived.Lib.Strings
set_option linter.all false
section
namespace Go.Am
open Go
def kV(b:Int):Nat:=
 if b=10 then 4 else if b=11 then 4 else if b=12 then 6 else if b=13 then 6 else if b=14 then 6 else if b=15 then 3 else if b=16 then 3 else if b=17 then 3 else if b=18 then 3 else if b=20 then 4 else if b=21 then 9 else if b=22 then 9 else if b=23 then 9 else if b=24 then 12 else if b=25 then 12 else if b=26 then 12 else if b=27 then 10 else if b=28 then 12 else if b=29 then 5 else if b=30 then 6 else if b=31 then 4 else 0
def ia:List Int:=[10,11,12,13,14,15,16,17,18,20,21,22,23,24,25,26,27,28,29,30,31]
theorem pc{b:Int}(D:b∉ia):bI b=[]:=by
 simp only[ia,aco,adQ,akp,akN]at D;obtain⟨E,H,I,J,M,O,T,U,V,Y,Z,c,y,A',A0,A1,A2,A3,A4,A5,A7⟩:=D;unfold bI MD;simp only[u9,ach (ag0 E),ach (ag0 H),ach (ag0 I),ach (ag0 J),ach (ag0 M),ach (ag0 O),ach (ag0 T),ach (ag0 U),ach (ag0 V),ach (ag0 Y),ach (ag0 Z),ach (ag0 c),ach (ag0 y),ach (ag0 A'),ach (ag0 A0),ach (ag0 A1),ach (ag0 A2),ach (ag0 A3),ach (ag0 A4),ach (ag0 A5),ach (ag0 A7)]
theorem Cw(b:Int):(bI b).length<=20:=by
 by_cases D:b∈ia
 ·simp only[ia,aco,adQ,akp]at D;rcases D with rfl|rfl|rfl|rfl|rfl|rfl|rfl|rfl|rfl|rfl|rfl|rfl|rfl|rfl|rfl|rfl|rfl|rfl|rfl|rfl|rfl<;>decide
 ·rw[pc D];decide
def acR(x:ak)(n:Int):Bool:=decide (x.n<=n)&&decide (n<=x.m)
def A6(C:List Int)(k:Int):Int:=C[k.toNat]?.getD 0
def alV(C:List Int)(x:ak):Bool:=decide (0<=A6 C (x.b+1)/\A6 C x.a<=A6 C x.b)||decide (A6 C (x.b+1)<0/\A6 C x.b<=A6 C x.a)
structure Ms where
 cells:List Int
 GU:List Int
 at_:Int
 fuel:Int
 fault:Int
def Ms.pop(s:Ms):Ms:={s with GU:=s.GU.dropLast}
def Ms.push(s:Ms)(n:Int):Ms:={s with GU:=s.GU++[n]}
def Ms.top(s:Ms):Int:=s.GU.getLast?.getD 0
def ahi(C:List Int)(k n:Int):List Int:=C.set k.toNat n
def alW(x:ak)(s:Ms):Option Ms:=
 if x.op=1 then some (s.push x.n)
 else if x.op=2 then some (s.push (A6 s.cells x.a))
 else if x.op=3 then some (s.push (eL (decide (A6 s.cells x.a≠0))))
 else if x.op=4\/x.op=5 then
  (if acR x s.top=true then some (s.pop.push (if x.op=4 then A6 s.cells (x.a+(s.top-x.n))else eL (decide (A6 s.cells (x.a+(s.top-x.n))≠0))))else some {s.pop with fault:=3})
 else if x.op=6 then some {s.pop with cells:=ahi s.cells x.a s.top}
 else if x.op=7 then
  (if acR x s.pop.top=true then some {s.pop.pop with cells:=ahi s.cells (x.a+(s.pop.top-x.n)) s.top} else some {s.pop.pop with fault:=3})
 else none
def doF(x:ak)(s:Ms):Ms:=
 if x.b=6\/x.b=7 then
  (if (uK x.b s.top (decide (x.a=1))).2.2=0 then s.pop.push (uK x.b s.top (decide (x.a=1))).1 else {s.pop with fault:=(uK x.b s.top (decide (x.a=1))).2.2})
 else
  (if (yW x.b s.pop.top s.top (decide (x.a=1))).2.2=0 then s.pop.pop.push (yW x.b s.pop.top s.top (decide (x.a=1))).1 else {s.pop.pop with fault:=(yW x.b s.pop.top s.top (decide (x.a=1))).2.2})
def ahj(x:ak)(C:List Int):List Int:=C.take x.a.toNat++alT x.b ((C.drop x.a.toNat).take (kV x.b))++C.drop (x.a.toNat+kV x.b)
def arj(x:ak)(s:Ms):Ms:=
 if x.op=8 then doF x s
 else if x.op=9 then {s with at_:=x.a}
 else if x.op=10 then (if s.top=0 then {s.pop with at_:=x.a} else s.pop)
 else if x.op=11 then (if s.fuel=0 then {s with fault:=4} else {s with fuel:=s.fuel-1})
 else if x.op=12 then {s with cells:=ahj x s.cells}
 else if x.op=13 then s.push (eL (alV s.cells x))
 else if x.op=14 then s.push (eL (decide (x.n<=A6 s.cells x.a/\A6 s.cells x.a<=x.m)))
 else s
def Tq(x:ak)(s:Ms):Ms:=
 match alW x {s with at_:=s.at_+1} with
 |some t=>t
 |none=>arj x {s with at_:=s.at_+1}
inductive KB(l:List ak):Ms->Ms->Prop
 |fault (s:Ms) (h:s.fault≠0):KB l s s
 |fin (s:Ms) (x:ak) (A8:s.fault=0) (A9:l[s.at_.toNat]?=some x) (h:x.op=15):KB l s s
 |step (s:Ms) (x:ak) (t:Ms) (A8:s.fault=0) (A9:l[s.at_.toNat]?=some x) (h:x.op≠15) (AA:KB l (Tq x s) t):KB l s t
end Go.Am
end
section
namespace Go.Am
open Go
open Go.Proofs
abbrev T2(t:Nat)(k:TK)(s:Nat):Prop:=tk Tryz.prog t=k/\gE Tryz.prog t=some s
abbrev T3(t:Nat)(k:TK)(s:Nat)(z:List AV):Prop:=T2 t k s/\wS Tryz.prog t=some z
abbrev T5(t:Nat)(k:TK)(s:Nat)(z:List AV)(b:Nat)(d:D):Prop:=T3 t k s z/\Bn Tryz.prog t=some b/\ob Tryz.prog t=some d
abbrev FF(t i o y:Nat):Prop:=zF Tryz.prog t i=some o/\Lo Tryz.prog t i=some y
@[simp] theorem aBg:T2 1 (.func) 1:=by and_intros<;>kernel_rfl
@[simp] theorem aBh:T5 2 (.int .i64) 1 ([.d (.int .i64 0)]) 8 (.int .i64 0):=by and_intros<;>kernel_rfl
@[simp] theorem aBi:T5 3 (.int .i64) 1 ([.d (.int .i64 0)]) 8 (.int .i64 0):=by and_intros<;>kernel_rfl
@[simp] theorem aBj:T5 4 (.bool) 1 ([.d (.bool false)]) 1 (.bool false):=by and_intros<;>kernel_rfl
@[simp] theorem aBk:T5 5 (.int .u8) 1 ([.d (.int .u8 0)]) 1 (.int .u8 0):=by and_intros<;>kernel_rfl
@[simp] theorem aBl:T5 6 (.int .u8) 1 ([.d (.int .u8 0)]) 1 (.int .u8 0):=by and_intros<;>kernel_rfl
@[simp] theorem aBm:T5 7 (.struct) 4 ([.d (.int .i64 0),.d (.int .i64 0),.d (.bool false),.d (.int .u8 0)]) 24 (.agg ([.int .i64 0,.int .i64 0,.bool false,.int .u8 0])):=by and_intros<;>kernel_rfl
@[simp] theorem axV:FF 7 0 0 2:=by and_intros<;>kernel_rfl
@[simp] theorem axW:FF 7 1 1 3:=by and_intros<;>kernel_rfl
@[simp] theorem axX:FF 7 2 2 4:=by and_intros<;>kernel_rfl
@[simp] theorem axY:FF 7 3 3 6:=by and_intros<;>kernel_rfl
@[simp] theorem ark:bZ Tryz.prog 7=some [(0,1),(1,1),(2,1),(3,1)]:=by kernel_rfl
@[simp] theorem aBn:T5 8 (.struct) 4 ([.d (.int .i64 0),.d (.int .i64 0),.d (.bool false),.d (.int .u8 0)]) 24 (.agg ([.int .i64 0,.int .i64 0,.bool false,.int .u8 0])):=by and_intros<;>kernel_rfl
@[simp] theorem axZ:FF 8 0 0 2:=by and_intros<;>kernel_rfl
@[simp] theorem ax0:FF 8 1 1 3:=by and_intros<;>kernel_rfl
@[simp] theorem ax1:FF 8 2 2 4:=by and_intros<;>kernel_rfl
@[simp] theorem ax2:FF 8 3 3 6:=by and_intros<;>kernel_rfl
@[simp] theorem arl:bZ Tryz.prog 8=some [(0,1),(1,1),(2,1),(3,1)]:=by kernel_rfl
@[simp] theorem aBo:T5 9 (.str) 1 ([.d (.str [])]) 16 (.str []):=by and_intros<;>kernel_rfl
@[simp] theorem avn:gB Tryz.prog 9=true:=by kernel_rfl
@[simp] theorem az7:T5 10 (.str) 1 ([.d (.str [])]) 16 (.str []):=by and_intros<;>kernel_rfl
@[simp] theorem arn:gB Tryz.prog 10=true:=by kernel_rfl
@[simp] theorem az8:T5 11 (.str) 1 ([.d (.str [])]) 16 (.str []):=by and_intros<;>kernel_rfl
@[simp] theorem aro:gB Tryz.prog 11=true:=by kernel_rfl
@[simp] theorem az9:T5 12 (.int .u64) 1 ([.d (.int .u64 0)]) 8 (.int .u64 0):=by and_intros<;>kernel_rfl
@[simp] theorem aAa:T5 13 (.struct) 2 ([.d (.str []),.d (.int .u64 0)]) 24 (.agg ([.str [],.int .u64 0])):=by and_intros<;>kernel_rfl
@[simp] theorem avo:FF 13 0 0 9:=by and_intros<;>kernel_rfl
@[simp] theorem avp:FF 13 1 1 12:=by and_intros<;>kernel_rfl
@[simp] theorem apv:bZ Tryz.prog 13=some [(0,1),(1,1)]:=by kernel_rfl
@[simp] theorem aAb:T5 14 (.struct) 2 ([.d (.str []),.d (.int .u64 0)]) 24 (.agg ([.str [],.int .u64 0])):=by and_intros<;>kernel_rfl
@[simp] theorem avq:FF 14 0 0 9:=by and_intros<;>kernel_rfl
@[simp] theorem avr:FF 14 1 1 12:=by and_intros<;>kernel_rfl
@[simp] theorem apw:bZ Tryz.prog 14=some [(0,1),(1,1)]:=by kernel_rfl
@[simp] theorem aAc:T2 15 (.ptr 368) 1:=by and_intros<;>kernel_rfl
@[simp] theorem aAd:T2 16 (.ptr 371) 1:=by and_intros<;>kernel_rfl
@[simp] theorem aAe:T2 17 (.ptr 379) 1:=by and_intros<;>kernel_rfl
@[simp] theorem aAf:T3 18 (.struct) 1 ([.lit (.pointer none)]):=by and_intros<;>kernel_rfl
@[simp] theorem avt:FF 18 0 0 17:=by and_intros<;>kernel_rfl
@[simp] theorem apx:bZ Tryz.prog 18=some [(0,1)]:=by kernel_rfl
@[simp] theorem aAg:T3 19 (.struct) 1 ([.lit (.pointer none)]):=by and_intros<;>kernel_rfl
@[simp] theorem avu:FF 19 0 0 17:=by and_intros<;>kernel_rfl
@[simp] theorem apy:bZ Tryz.prog 19=some [(0,1)]:=by kernel_rfl
@[simp] theorem aAh:T2 20 (.iface) 1:=by and_intros<;>kernel_rfl
@[simp] theorem aAi:T5 21 (.int .i32) 1 ([.d (.int .i32 0)]) 4 (.int .i32 0):=by and_intros<;>kernel_rfl
@[simp] theorem aAj:T5 22 (.slice 71) 1 ([.lit (.slice none 0 0)]) 24 (.list []):=by and_intros<;>kernel_rfl
@[simp] theorem arp:gB Tryz.prog 22=true:=by kernel_rfl
@[simp] theorem aAk:T5 23 (.slice 141) 1 ([.lit (.slice none 0 0)]) 24 (.list []):=by and_intros<;>kernel_rfl
@[simp] theorem arq:gB Tryz.prog 23=true:=by kernel_rfl
@[simp] theorem aAl:T5 24 (.struct) 3 ([.d (.str []),.lit (.slice none 0 0),.lit (.slice none 0 0)]) 64 (.agg ([.str [],.list [],.list []])):=by and_intros<;>kernel_rfl
@[simp] theorem avv:FF 24 0 0 9:=by and_intros<;>kernel_rfl
@[simp] theorem avw:FF 24 1 1 22:=by and_intros<;>kernel_rfl
@[simp] theorem avx:FF 24 2 2 23:=by and_intros<;>kernel_rfl
@[simp] theorem apz:bZ Tryz.prog 24=some [(0,1),(1,1),(2,1)]:=by kernel_rfl
@[simp] theorem aAm:T5 25 (.struct) 3 ([.d (.str []),.lit (.slice none 0 0),.lit (.slice none 0 0)]) 64 (.agg ([.str [],.list [],.list []])):=by and_intros<;>kernel_rfl
@[simp] theorem avy:FF 25 0 0 9:=by and_intros<;>kernel_rfl
@[simp] theorem avz:FF 25 1 1 22:=by and_intros<;>kernel_rfl
@[simp] theorem avA:FF 25 2 2 23:=by and_intros<;>kernel_rfl
@[simp] theorem apA:bZ Tryz.prog 25=some [(0,1),(1,1),(2,1)]:=by kernel_rfl
@[simp] theorem aAn:T2 26 (.func) 1:=by and_intros<;>kernel_rfl
@[simp] theorem aAo:T2 27 (.func) 1:=by and_intros<;>kernel_rfl
@[simp] theorem aAp:T5 28 (.struct) 2 ([.d (.int .i64 0),.d (.int .i64 0)]) 16 (.agg ([.int .i64 0,.int .i64 0])):=by and_intros<;>kernel_rfl
@[simp] theorem avB:FF 28 0 0 3:=by and_intros<;>kernel_rfl
@[simp] theorem avC:FF 28 1 1 3:=by and_intros<;>kernel_rfl
@[simp] theorem apB:bZ Tryz.prog 28=some [(0,1),(1,1)]/\eK Tryz.prog 28=some [.int .i64,.int .i64]:=by and_intros<;>kernel_rfl
@[simp] theorem aAq:T5 29 (.struct) 2 ([.d (.int .i64 0),.d (.int .i64 0)]) 16 (.agg ([.int .i64 0,.int .i64 0])):=by and_intros<;>kernel_rfl
@[simp] theorem avD:FF 29 0 0 3:=by and_intros<;>kernel_rfl
@[simp] theorem avE:FF 29 1 1 3:=by and_intros<;>kernel_rfl
@[simp] theorem apC:bZ Tryz.prog 29=some [(0,1),(1,1)]/\eK Tryz.prog 29=some [.int .i64,.int .i64]:=by and_intros<;>kernel_rfl
@[simp] theorem aAr:T2 30 (.func) 1:=by and_intros<;>kernel_rfl
@[simp] theorem aAs:T5 31 (.slice 56) 1 ([.lit (.slice none 0 0)]) 24 (.list []):=by and_intros<;>kernel_rfl
@[simp] theorem ars:gB Tryz.prog 31=true:=by kernel_rfl
@[simp] theorem aAt:T5 32 (.struct) 3 ([.lit (.slice none 0 0),.d (.int .i64 0),.d (.int .i64 0)]) 40 (.agg ([.list [],.int .i64 0,.int .i64 0])):=by and_intros<;>kernel_rfl
@[simp] theorem avF:FF 32 0 0 31:=by and_intros<;>kernel_rfl
@[simp] theorem avG:FF 32 1 1 3:=by and_intros<;>kernel_rfl
@[simp] theorem avH:FF 32 2 2 3:=by and_intros<;>kernel_rfl
@[simp] theorem apD:bZ Tryz.prog 32=some [(0,1),(1,1),(2,1)]:=by kernel_rfl
@[simp] theorem aAu:T5 33 (.struct) 3 ([.lit (.slice none 0 0),.d (.int .i64 0),.d (.int .i64 0)]) 40 (.agg ([.list [],.int .i64 0,.int .i64 0])):=by and_intros<;>kernel_rfl
@[simp] theorem avI:FF 33 0 0 31:=by and_intros<;>kernel_rfl
@[simp] theorem avJ:FF 33 1 1 3:=by and_intros<;>kernel_rfl
@[simp] theorem avK:FF 33 2 2 3:=by and_intros<;>kernel_rfl
@[simp] theorem apE:bZ Tryz.prog 33=some [(0,1),(1,1),(2,1)]:=by kernel_rfl
@[simp] theorem aAv:T5 34 (.int .i64) 1 ([.d (.int .i64 0)]) 8 (.int .i64 0):=by and_intros<;>kernel_rfl
@[simp] theorem aAw:T2 36 (.func) 1:=by and_intros<;>kernel_rfl
@[simp] theorem aAx:T5 38 (.slice 5) 1 ([.lit (.slice none 0 0)]) 24 (.list []):=by and_intros<;>kernel_rfl
@[simp] theorem art:gB Tryz.prog 38=true:=by kernel_rfl
@[simp] theorem aAy:T5 45 (.slice 2) 1 ([.lit (.slice none 0 0)]) 24 (.list []):=by and_intros<;>kernel_rfl
@[simp] theorem aru:gB Tryz.prog 45=true:=by kernel_rfl
@[simp] theorem aAz:T2 46 (.func) 1:=by and_intros<;>kernel_rfl
@[simp] theorem aAA:T5 48 (.struct) 3 ([.lit (.slice none 0 0),.d (.int .i64 0),.d (.int .i64 0)]) 40 (.agg ([.list [],.int .i64 0,.int .i64 0])):=by and_intros<;>kernel_rfl
@[simp] theorem avL:FF 48 0 0 45:=by and_intros<;>kernel_rfl
@[simp] theorem avM:FF 48 1 1 3:=by and_intros<;>kernel_rfl
@[simp] theorem avN:FF 48 2 2 3:=by and_intros<;>kernel_rfl
@[simp] theorem apF:bZ Tryz.prog 48=some [(0,1),(1,1),(2,1)]:=by kernel_rfl
@[simp] theorem aAB:T5 49 (.struct) 3 ([.lit (.slice none 0 0),.d (.int .i64 0),.d (.int .i64 0)]) 40 (.agg ([.list [],.int .i64 0,.int .i64 0])):=by and_intros<;>kernel_rfl
@[simp] theorem avO:FF 49 0 0 45:=by and_intros<;>kernel_rfl
@[simp] theorem avP:FF 49 1 1 3:=by and_intros<;>kernel_rfl
@[simp] theorem avQ:FF 49 2 2 3:=by and_intros<;>kernel_rfl
@[simp] theorem apG:bZ Tryz.prog 49=some [(0,1),(1,1),(2,1)]:=by kernel_rfl
@[simp] theorem aAC:T5 55 (.struct) 5 ([.d (.int .i64 0),.d (.int .i64 0),.d (.int .i64 0),.d (.int .i64 0),.d (.int .i64 0)]) 40 (.agg ([.int .i64 0,.int .i64 0,.int .i64 0,.int .i64 0,.int .i64 0])):=by and_intros<;>kernel_rfl
@[simp] theorem avR:FF 55 0 0 3:=by and_intros<;>kernel_rfl
@[simp] theorem avS:FF 55 1 1 3:=by and_intros<;>kernel_rfl
@[simp] theorem avT:FF 55 2 2 3:=by and_intros<;>kernel_rfl
@[simp] theorem avU:FF 55 3 3 2:=by and_intros<;>kernel_rfl
@[simp] theorem avV:FF 55 4 4 2:=by and_intros<;>kernel_rfl
@[simp] theorem apH:bZ Tryz.prog 55=some [(0,1),(1,1),(2,1),(3,1),(4,1)]/\eK Tryz.prog 55=some [.int .i64,.int .i64,.int .i64,.int .i64,.int .i64]:=by and_intros<;>kernel_rfl
@[simp] theorem aAD:T5 56 (.struct) 5 ([.d (.int .i64 0),.d (.int .i64 0),.d (.int .i64 0),.d (.int .i64 0),.d (.int .i64 0)]) 40 (.agg ([.int .i64 0,.int .i64 0,.int .i64 0,.int .i64 0,.int .i64 0])):=by and_intros<;>kernel_rfl
@[simp] theorem avW:FF 56 0 0 3:=by and_intros<;>kernel_rfl
@[simp] theorem avX:FF 56 1 1 3:=by and_intros<;>kernel_rfl
@[simp] theorem avY:FF 56 2 2 3:=by and_intros<;>kernel_rfl
@[simp] theorem avZ:FF 56 3 3 2:=by and_intros<;>kernel_rfl
@[simp] theorem av0:FF 56 4 4 2:=by and_intros<;>kernel_rfl
@[simp] theorem apI:bZ Tryz.prog 56=some [(0,1),(1,1),(2,1),(3,1),(4,1)]/\eK Tryz.prog 56=some [.int .i64,.int .i64,.int .i64,.int .i64,.int .i64]:=by and_intros<;>kernel_rfl
@[simp] theorem aAE:T2 57 (.func) 1:=by and_intros<;>kernel_rfl
@[simp] theorem aAF:T2 65 (.func) 1:=by and_intros<;>kernel_rfl
@[simp] theorem aAG:T2 67 (.func) 1:=by and_intros<;>kernel_rfl
@[simp] theorem aAH:T5 70 (.struct) 8 ([.d (.str []),.d (.int .i64 0),.d (.int .i64 0),.d (.bool false),.d (.int .i64 0),.d (.int .i64 0),.d (.int .i64 0),.d (.int .i64 0)]) 72 (.agg ([.str [],.int .i64 0,.int .i64 0,.bool false,.int .i64 0,.int .i64 0,.int .i64 0,.int .i64 0])):=by and_intros<;>kernel_rfl
@[simp] theorem av1:FF 70 0 0 9:=by and_intros<;>kernel_rfl
@[simp] theorem av2:FF 70 1 1 3:=by and_intros<;>kernel_rfl
@[simp] theorem av3:FF 70 2 2 3:=by and_intros<;>kernel_rfl
@[simp] theorem av4:FF 70 3 3 4:=by and_intros<;>kernel_rfl
@[simp] theorem av5:FF 70 4 4 2:=by and_intros<;>kernel_rfl
@[simp] theorem av6:FF 70 5 5 2:=by and_intros<;>kernel_rfl
@[simp] theorem av7:FF 70 6 6 2:=by and_intros<;>kernel_rfl
@[simp] theorem av8:FF 70 7 7 3:=by and_intros<;>kernel_rfl
@[simp] theorem apJ:bZ Tryz.prog 70=some [(0,1),(1,1),(2,1),(3,1),(4,1),(5,1),(6,1),(7,1)]/\eK Tryz.prog 70=some [.str,.int .i64,.int .i64,.bool,.int .i64,.int .i64,.int .i64,.int .i64]:=by and_intros<;>kernel_rfl
@[simp] theorem aAI:T5 71 (.struct) 8 ([.d (.str []),.d (.int .i64 0),.d (.int .i64 0),.d (.bool false),.d (.int .i64 0),.d (.int .i64 0),.d (.int .i64 0),.d (.int .i64 0)]) 72 (.agg ([.str [],.int .i64 0,.int .i64 0,.bool false,.int .i64 0,.int .i64 0,.int .i64 0,.int .i64 0])):=by and_intros<;>kernel_rfl
@[simp] theorem av9:FF 71 0 0 9:=by and_intros<;>kernel_rfl
@[simp] theorem awa:FF 71 1 1 3:=by and_intros<;>kernel_rfl
@[simp] theorem awb:FF 71 2 2 3:=by and_intros<;>kernel_rfl
@[simp] theorem awc:FF 71 3 3 4:=by and_intros<;>kernel_rfl
@[simp] theorem awd:FF 71 4 4 2:=by and_intros<;>kernel_rfl
@[simp] theorem awe:FF 71 5 5 2:=by and_intros<;>kernel_rfl
@[simp] theorem awf:FF 71 6 6 2:=by and_intros<;>kernel_rfl
@[simp] theorem awg:FF 71 7 7 3:=by and_intros<;>kernel_rfl
@[simp] theorem apK:bZ Tryz.prog 71=some [(0,1),(1,1),(2,1),(3,1),(4,1),(5,1),(6,1),(7,1)]/\eK Tryz.prog 71=some [.str,.int .i64,.int .i64,.bool,.int .i64,.int .i64,.int .i64,.int .i64]:=by and_intros<;>kernel_rfl
@[simp] theorem aAJ:T5 77 (.slice 3) 1 ([.lit (.slice none 0 0)]) 24 (.list []):=by and_intros<;>kernel_rfl
@[simp] theorem arv:gB Tryz.prog 77=true:=by kernel_rfl
@[simp] theorem aAK:T5 78 (.struct) 3 ([.lit (.slice none 0 0),.d (.int .i64 0),.lit (.slice none 0 0)]) 56 (.agg ([.list [],.int .i64 0,.list []])):=by and_intros<;>kernel_rfl
@[simp] theorem awh:FF 78 0 0 77:=by and_intros<;>kernel_rfl
@[simp] theorem awi:FF 78 1 1 3:=by and_intros<;>kernel_rfl
@[simp] theorem awj:FF 78 2 2 45:=by and_intros<;>kernel_rfl
@[simp] theorem apL:bZ Tryz.prog 78=some [(0,1),(1,1),(2,1)]:=by kernel_rfl
@[simp] theorem aAL:T5 79 (.struct) 3 ([.lit (.slice none 0 0),.d (.int .i64 0),.lit (.slice none 0 0)]) 56 (.agg ([.list [],.int .i64 0,.list []])):=by and_intros<;>kernel_rfl
@[simp] theorem awk:FF 79 0 0 77:=by and_intros<;>kernel_rfl
@[simp] theorem awl:FF 79 1 1 3:=by and_intros<;>kernel_rfl
@[simp] theorem awm:FF 79 2 2 45:=by and_intros<;>kernel_rfl
@[simp] theorem apM:bZ Tryz.prog 79=some [(0,1),(1,1),(2,1)]:=by kernel_rfl
@[simp] theorem aAM:T2 81 (.ptr 84) 1:=by and_intros<;>kernel_rfl
@[simp] theorem aAN:T5 82 (.slice 77) 1 ([.lit (.slice none 0 0)]) 24 (.list []):=by and_intros<;>kernel_rfl
@[simp] theorem arw:gB Tryz.prog 82=true:=by kernel_rfl
@[simp] theorem aAO:T5 83 (.struct) 9 ([.d (.str []),.lit (.slice none 0 0),.lit (.slice none 0 0),.lit (.slice none 0 0),.d (.int .i64 0),.d (.int .i64 0),.d (.int .i64 0),.lit (.slice none 0 0),.lit (.slice none 0 0)]) 160 (.agg ([.str [],.list [],.list [],.list [],.int .i64 0,.int .i64 0,.int .i64 0,.list [],.list []])):=by and_intros<;>kernel_rfl
@[simp] theorem awn:FF 83 0 0 25:=by and_intros<;>kernel_rfl
@[simp] theorem awo:FF 83 1 3 31:=by and_intros<;>kernel_rfl
@[simp] theorem awp:FF 83 2 4 3:=by and_intros<;>kernel_rfl
@[simp] theorem awq:FF 83 3 5 3:=by and_intros<;>kernel_rfl
@[simp] theorem awr:FF 83 4 6 3:=by and_intros<;>kernel_rfl
@[simp] theorem aws:FF 83 5 7 82:=by and_intros<;>kernel_rfl
@[simp] theorem awt:FF 83 6 8 77:=by and_intros<;>kernel_rfl
@[simp] theorem apN:bZ Tryz.prog 83=some [(0,3),(3,1),(4,1),(5,1),(6,1),(7,1),(8,1)]:=by kernel_rfl
@[simp] theorem aAP:T5 84 (.struct) 9 ([.d (.str []),.lit (.slice none 0 0),.lit (.slice none 0 0),.lit (.slice none 0 0),.d (.int .i64 0),.d (.int .i64 0),.d (.int .i64 0),.lit (.slice none 0 0),.lit (.slice none 0 0)]) 160 (.agg ([.str [],.list [],.list [],.list [],.int .i64 0,.int .i64 0,.int .i64 0,.list [],.list []])):=by and_intros<;>kernel_rfl
@[simp] theorem awu:FF 84 0 0 25:=by and_intros<;>kernel_rfl
@[simp] theorem awv:FF 84 1 3 31:=by and_intros<;>kernel_rfl
@[simp] theorem aww:FF 84 2 4 3:=by and_intros<;>kernel_rfl
@[simp] theorem awx:FF 84 3 5 3:=by and_intros<;>kernel_rfl
@[simp] theorem awy:FF 84 4 6 3:=by and_intros<;>kernel_rfl
@[simp] theorem awz:FF 84 5 7 82:=by and_intros<;>kernel_rfl
@[simp] theorem awA:FF 84 6 8 77:=by and_intros<;>kernel_rfl
@[simp] theorem apO:bZ Tryz.prog 84=some [(0,3),(3,1),(4,1),(5,1),(6,1),(7,1),(8,1)]:=by kernel_rfl
@[simp] theorem aAQ:T2 86 (.func) 1:=by and_intros<;>kernel_rfl
@[simp] theorem aAR:T2 88 (.ptr 91) 1:=by and_intros<;>kernel_rfl
@[simp] theorem aAS:T5 89 (.slice 4) 1 ([.lit (.slice none 0 0)]) 24 (.list []):=by and_intros<;>kernel_rfl
@[simp] theorem arx:gB Tryz.prog 89=true:=by kernel_rfl
@[simp] theorem aAT:T5 90 (.struct) 5 ([.lit (.slice none 0 0),.d (.int .i64 0),.d (.int .i64 0),.lit (.slice none 0 0),.lit (.slice none 0 0)]) 88 (.agg ([.list [],.int .i64 0,.int .i64 0,.list [],.list []])):=by and_intros<;>kernel_rfl
@[simp] theorem awB:FF 90 0 0 33:=by and_intros<;>kernel_rfl
@[simp] theorem awC:FF 90 1 3 89:=by and_intros<;>kernel_rfl
@[simp] theorem awD:FF 90 2 4 89:=by and_intros<;>kernel_rfl
@[simp] theorem apP:bZ Tryz.prog 90=some [(0,3),(3,1),(4,1)]:=by kernel_rfl
@[simp] theorem aAU:T5 91 (.struct) 5 ([.lit (.slice none 0 0),.d (.int .i64 0),.d (.int .i64 0),.lit (.slice none 0 0),.lit (.slice none 0 0)]) 88 (.agg ([.list [],.int .i64 0,.int .i64 0,.list [],.list []])):=by and_intros<;>kernel_rfl
@[simp] theorem awE:FF 91 0 0 33:=by and_intros<;>kernel_rfl
@[simp] theorem awF:FF 91 1 3 89:=by and_intros<;>kernel_rfl
@[simp] theorem awG:FF 91 2 4 89:=by and_intros<;>kernel_rfl
@[simp] theorem apQ:bZ Tryz.prog 91=some [(0,3),(3,1),(4,1)]:=by kernel_rfl
@[simp] theorem aAV:T2 93 (.ptr 95) 1:=by and_intros<;>kernel_rfl
@[simp] theorem aAW:T5 94 (.struct) 2 ([.lit (.slice none 0 0),.d (.int .i64 0)]) 32 (.agg ([.list [],.int .i64 0])):=by and_intros<;>kernel_rfl
@[simp] theorem awH:FF 94 0 0 38:=by and_intros<;>kernel_rfl
@[simp] theorem awI:FF 94 1 1 34:=by and_intros<;>kernel_rfl
@[simp] theorem apR:bZ Tryz.prog 94=some [(0,1),(1,1)]:=by kernel_rfl
@[simp] theorem aAX:T5 95 (.struct) 2 ([.lit (.slice none 0 0),.d (.int .i64 0)]) 32 (.agg ([.list [],.int .i64 0])):=by and_intros<;>kernel_rfl
@[simp] theorem awJ:FF 95 0 0 38:=by and_intros<;>kernel_rfl
@[simp] theorem awK:FF 95 1 1 34:=by and_intros<;>kernel_rfl
@[simp] theorem apS:bZ Tryz.prog 95=some [(0,1),(1,1)]:=by kernel_rfl
@[simp] theorem aAY:T5 96 (.int .u64) 1 ([.d (.int .u64 0)]) 8 (.int .u64 0):=by and_intros<;>kernel_rfl
@[simp] theorem aAZ:T2 97 (.func) 1:=by and_intros<;>kernel_rfl
@[simp] theorem ax3:T2 100 (.func) 1:=by and_intros<;>kernel_rfl
@[simp] theorem ax4:T5 103 (.int .u16) 1 ([.d (.int .u16 0)]) 2 (.int .u16 0):=by and_intros<;>kernel_rfl
@[simp] theorem ax5:T2 105 (.func) 1:=by and_intros<;>kernel_rfl
@[simp] theorem ax6:T5 111 (.arr 64 2) 64 (List.replicate 64 (.d (.int .i64 0))) 512 (.agg (List.replicate 64 (.int .i64 0))):=by and_intros<;>kernel_rfl
@[simp] theorem alX:bZ Tryz.prog 111=none:=by kernel_rfl
@[simp] theorem ax7:T5 116 (.slice 119) 1 ([.lit (.slice none 0 0)]) 24 (.list []):=by and_intros<;>kernel_rfl
@[simp] theorem apT:gB Tryz.prog 116=true:=by kernel_rfl
@[simp] theorem ax8:T5 119 (.slice 175) 1 ([.lit (.slice none 0 0)]) 24 (.list []):=by and_intros<;>kernel_rfl
@[simp] theorem apU:gB Tryz.prog 119=true:=by kernel_rfl
@[simp] theorem ax9:T5 122 (.struct) 7 ([.d (.str []),.lit (.slice none 0 0),.lit (.slice none 0 0),.lit (.slice none 0 0),.lit (.slice none 0 0),.lit (.slice none 0 0),.d (.int .i64 0)]) 144 (.agg ([.str [],.list [],.list [],.list [],.list [],.list [],.int .i64 0])):=by and_intros<;>kernel_rfl
@[simp] theorem ary:FF 122 0 0 25:=by and_intros<;>kernel_rfl
@[simp] theorem arz:FF 122 1 3 77:=by and_intros<;>kernel_rfl
@[simp] theorem arA:FF 122 2 4 116:=by and_intros<;>kernel_rfl
@[simp] theorem arB:FF 122 3 5 45:=by and_intros<;>kernel_rfl
@[simp] theorem arC:FF 122 4 6 3:=by and_intros<;>kernel_rfl
@[simp] theorem alY:bZ Tryz.prog 122=some [(0,3),(3,1),(4,1),(5,1),(6,1)]:=by kernel_rfl
@[simp] theorem aya:T2 128 (.func) 1:=by and_intros<;>kernel_rfl
@[simp] theorem ayb:T2 133 (.func) 1:=by and_intros<;>kernel_rfl
@[simp] theorem ayc:T5 134 (.slice 136) 1 ([.lit (.slice none 0 0)]) 24 (.list []):=by and_intros<;>kernel_rfl
@[simp] theorem apV:gB Tryz.prog 134=true:=by kernel_rfl
@[simp] theorem ayd:T5 135 (.struct) 6 ([.d (.int .i64 0),.d (.int .i64 0),.d (.str []),.d (.str []),.lit (.slice none 0 0),.d (.int .i64 0)]) 80 (.agg ([.int .i64 0,.int .i64 0,.str [],.str [],.list [],.int .i64 0])):=by and_intros<;>kernel_rfl
@[simp] theorem arD:FF 135 0 0 3:=by and_intros<;>kernel_rfl
@[simp] theorem arE:FF 135 1 1 2:=by and_intros<;>kernel_rfl
@[simp] theorem arF:FF 135 2 2 9:=by and_intros<;>kernel_rfl
@[simp] theorem arG:FF 135 3 3 9:=by and_intros<;>kernel_rfl
@[simp] theorem arH:FF 135 4 4 134:=by and_intros<;>kernel_rfl
@[simp] theorem arI:FF 135 5 5 3:=by and_intros<;>kernel_rfl
@[simp] theorem alZ:bZ Tryz.prog 135=some [(0,1),(1,1),(2,1),(3,1),(4,1),(5,1)]:=by kernel_rfl
@[simp] theorem aye:T5 136 (.struct) 6 ([.d (.int .i64 0),.d (.int .i64 0),.d (.str []),.d (.str []),.lit (.slice none 0 0),.d (.int .i64 0)]) 80 (.agg ([.int .i64 0,.int .i64 0,.str [],.str [],.list [],.int .i64 0])):=by and_intros<;>kernel_rfl
@[simp] theorem arJ:FF 136 0 0 3:=by and_intros<;>kernel_rfl
@[simp] theorem arK:FF 136 1 1 2:=by and_intros<;>kernel_rfl
@[simp] theorem arL:FF 136 2 2 9:=by and_intros<;>kernel_rfl
@[simp] theorem arM:FF 136 3 3 9:=by and_intros<;>kernel_rfl
@[simp] theorem arN:FF 136 4 4 134:=by and_intros<;>kernel_rfl
@[simp] theorem arO:FF 136 5 5 3:=by and_intros<;>kernel_rfl
@[simp] theorem al0:bZ Tryz.prog 136=some [(0,1),(1,1),(2,1),(3,1),(4,1),(5,1)]:=by kernel_rfl
@[simp] theorem ayf:T5 137 (.slice 45) 1 ([.lit (.slice none 0 0)]) 24 (.list []):=by and_intros<;>kernel_rfl
@[simp] theorem apW:gB Tryz.prog 137=true:=by kernel_rfl
@[simp] theorem ayg:T5 138 (.slice 9) 1 ([.lit (.slice none 0 0)]) 24 (.list []):=by and_intros<;>kernel_rfl
@[simp] theorem apX:gB Tryz.prog 138=true:=by kernel_rfl
@[simp] theorem ayh:T5 139 (.slice 23) 1 ([.lit (.slice none 0 0)]) 24 (.list []):=by and_intros<;>kernel_rfl
@[simp] theorem apY:gB Tryz.prog 139=true:=by kernel_rfl
@[simp] theorem ayi:T5 140 (.struct) 19 ([.d (.int .i64 0),.d (.str []),.d (.int .i64 0),.d (.int .i64 0),.d (.str []),.d (.str []),.lit (.slice none 0 0),.d (.int .i64 0),.d (.int .i64 0),.d (.int .i64 0),.d (.str []),.d (.str []),.lit (.slice none 0 0),.d (.int .i64 0),.lit (.slice none 0 0),.lit (.slice none 0 0),.lit (.slice none 0 0),.lit (.slice none 0 0),.d (.int .i64 0)]) 288 (.agg ([.int .i64 0,.str [],.int .i64 0,.int .i64 0,.str [],.str [],.list [],.int .i64 0,.int .i64 0,.int .i64 0,.str [],.str [],.list [],.int .i64 0,.list [],.list [],.list [],.list [],.int .i64 0])):=by and_intros<;>kernel_rfl
@[simp] theorem arP:FF 140 0 0 3:=by and_intros<;>kernel_rfl
@[simp] theorem arQ:FF 140 1 1 9:=by and_intros<;>kernel_rfl
@[simp] theorem arR:FF 140 2 2 136:=by and_intros<;>kernel_rfl
@[simp] theorem arS:FF 140 3 8 136:=by and_intros<;>kernel_rfl
@[simp] theorem arT:FF 140 4 14 134:=by and_intros<;>kernel_rfl
@[simp] theorem arU:FF 140 5 15 137:=by and_intros<;>kernel_rfl
@[simp] theorem arV:FF 140 6 16 138:=by and_intros<;>kernel_rfl
@[simp] theorem arW:FF 140 7 17 139:=by and_intros<;>kernel_rfl
@[simp] theorem arX:FF 140 8 18 3:=by and_intros<;>kernel_rfl
@[simp] theorem al1:bZ Tryz.prog 140=some [(0,1),(1,1),(2,6),(8,6),(14,1),(15,1),(16,1),(17,1),(18,1)]:=by kernel_rfl
@[simp] theorem ayj:T5 141 (.struct) 19 ([.d (.int .i64 0),.d (.str []),.d (.int .i64 0),.d (.int .i64 0),.d (.str []),.d (.str []),.lit (.slice none 0 0),.d (.int .i64 0),.d (.int .i64 0),.d (.int .i64 0),.d (.str []),.d (.str []),.lit (.slice none 0 0),.d (.int .i64 0),.lit (.slice none 0 0),.lit (.slice none 0 0),.lit (.slice none 0 0),.lit (.slice none 0 0),.d (.int .i64 0)]) 288 (.agg ([.int .i64 0,.str [],.int .i64 0,.int .i64 0,.str [],.str [],.list [],.int .i64 0,.int .i64 0,.int .i64 0,.str [],.str [],.list [],.int .i64 0,.list [],.list [],.list [],.list [],.int .i64 0])):=by and_intros<;>kernel_rfl
@[simp] theorem arY:FF 141 0 0 3:=by and_intros<;>kernel_rfl
@[simp] theorem arZ:FF 141 1 1 9:=by and_intros<;>kernel_rfl
@[simp] theorem ar0:FF 141 2 2 136:=by and_intros<;>kernel_rfl
@[simp] theorem ar1:FF 141 3 8 136:=by and_intros<;>kernel_rfl
@[simp] theorem ar2:FF 141 4 14 134:=by and_intros<;>kernel_rfl
@[simp] theorem ar3:FF 141 5 15 137:=by and_intros<;>kernel_rfl
@[simp] theorem ar4:FF 141 6 16 138:=by and_intros<;>kernel_rfl
@[simp] theorem ar5:FF 141 7 17 139:=by and_intros<;>kernel_rfl
@[simp] theorem ar6:FF 141 8 18 3:=by and_intros<;>kernel_rfl
@[simp] theorem al2:bZ Tryz.prog 141=some [(0,1),(1,1),(2,6),(8,6),(14,1),(15,1),(16,1),(17,1),(18,1)]:=by kernel_rfl
@[simp] theorem ayk:T5 145 (.slice 148) 1 ([.lit (.slice none 0 0)]) 24 (.list []):=by and_intros<;>kernel_rfl
@[simp] theorem apZ:gB Tryz.prog 145=true:=by kernel_rfl
@[simp] theorem ayl:T5 147 (.struct) 4 ([.d (.int .i64 0),.d (.str []),.d (.str []),.lit (.slice none 0 0)]) 64 (.agg ([.int .i64 0,.str [],.str [],.list []])):=by and_intros<;>kernel_rfl
@[simp] theorem ar7:FF 147 0 0 3:=by and_intros<;>kernel_rfl
@[simp] theorem ar8:FF 147 1 1 9:=by and_intros<;>kernel_rfl
@[simp] theorem ar9:FF 147 2 2 9:=by and_intros<;>kernel_rfl
@[simp] theorem asa:FF 147 3 3 138:=by and_intros<;>kernel_rfl
@[simp] theorem al3:bZ Tryz.prog 147=some [(0,1),(1,1),(2,1),(3,1)]:=by kernel_rfl
@[simp] theorem aym:T5 148 (.struct) 4 ([.d (.int .i64 0),.d (.str []),.d (.str []),.lit (.slice none 0 0)]) 64 (.agg ([.int .i64 0,.str [],.str [],.list []])):=by and_intros<;>kernel_rfl
@[simp] theorem asb:FF 148 0 0 3:=by and_intros<;>kernel_rfl
@[simp] theorem asc:FF 148 1 1 9:=by and_intros<;>kernel_rfl
@[simp] theorem asd:FF 148 2 2 9:=by and_intros<;>kernel_rfl
@[simp] theorem ase:FF 148 3 3 138:=by and_intros<;>kernel_rfl
@[simp] theorem al4:bZ Tryz.prog 148=some [(0,1),(1,1),(2,1),(3,1)]:=by kernel_rfl
@[simp] theorem ayn:T2 155 (.func) 1:=by and_intros<;>kernel_rfl
@[simp] theorem ayo:T5 158 (.int .u64) 1 ([.d (.int .u64 0)]) 8 (.int .u64 0):=by and_intros<;>kernel_rfl
@[simp] theorem ayp:T2 160 (.func) 1:=by and_intros<;>kernel_rfl
@[simp] theorem ayq:T5 174 (.struct) 3 ([.d (.str []),.d (.int .i64 0),.d (.bool false)]) 32 (.agg ([.str [],.int .i64 0,.bool false])):=by and_intros<;>kernel_rfl
@[simp] theorem asf:FF 174 0 0 9:=by and_intros<;>kernel_rfl
@[simp] theorem ash:FF 174 1 1 3:=by and_intros<;>kernel_rfl
@[simp] theorem asi:FF 174 2 2 4:=by and_intros<;>kernel_rfl
@[simp] theorem al5:bZ Tryz.prog 174=some [(0,1),(1,1),(2,1)]/\eK Tryz.prog 174=some [.str,.int .i64,.bool]:=by and_intros<;>kernel_rfl
@[simp] theorem ayr:T5 175 (.struct) 3 ([.d (.str []),.d (.int .i64 0),.d (.bool false)]) 32 (.agg ([.str [],.int .i64 0,.bool false])):=by and_intros<;>kernel_rfl
@[simp] theorem asj:FF 175 0 0 9:=by and_intros<;>kernel_rfl
@[simp] theorem asl:FF 175 1 1 3:=by and_intros<;>kernel_rfl
@[simp] theorem asm:FF 175 2 2 4:=by and_intros<;>kernel_rfl
@[simp] theorem al6:bZ Tryz.prog 175=some [(0,1),(1,1),(2,1)]/\eK Tryz.prog 175=some [.str,.int .i64,.bool]:=by and_intros<;>kernel_rfl
@[simp] theorem ays:T5 177 (.struct) 5 ([.d (.int .i64 0),.d (.str []),.d (.str []),.d (.str []),.d (.int .i64 0)]) 64 (.agg ([.int .i64 0,.str [],.str [],.str [],.int .i64 0])):=by and_intros<;>kernel_rfl
@[simp] theorem asn:FF 177 0 0 3:=by and_intros<;>kernel_rfl
@[simp] theorem aso:FF 177 1 1 9:=by and_intros<;>kernel_rfl
@[simp] theorem asp:FF 177 2 2 9:=by and_intros<;>kernel_rfl
@[simp] theorem asq:FF 177 3 3 9:=by and_intros<;>kernel_rfl
@[simp] theorem asr:FF 177 4 4 3:=by and_intros<;>kernel_rfl
@[simp] theorem al7:bZ Tryz.prog 177=some [(0,1),(1,1),(2,1),(3,1),(4,1)]/\eK Tryz.prog 177=some [.int .i64,.str,.str,.str,.int .i64]:=by and_intros<;>kernel_rfl
@[simp] theorem ayt:T5 178 (.struct) 5 ([.d (.int .i64 0),.d (.str []),.d (.str []),.d (.str []),.d (.int .i64 0)]) 64 (.agg ([.int .i64 0,.str [],.str [],.str [],.int .i64 0])):=by and_intros<;>kernel_rfl
@[simp] theorem ass:FF 178 0 0 3:=by and_intros<;>kernel_rfl
@[simp] theorem ast:FF 178 1 1 9:=by and_intros<;>kernel_rfl
@[simp] theorem asu:FF 178 2 2 9:=by and_intros<;>kernel_rfl
@[simp] theorem asv:FF 178 3 3 9:=by and_intros<;>kernel_rfl
@[simp] theorem asw:FF 178 4 4 3:=by and_intros<;>kernel_rfl
@[simp] theorem al8:bZ Tryz.prog 178=some [(0,1),(1,1),(2,1),(3,1),(4,1)]/\eK Tryz.prog 178=some [.int .i64,.str,.str,.str,.int .i64]:=by and_intros<;>kernel_rfl
@[simp] theorem ayu:T5 204 (.slice 134) 1 ([.lit (.slice none 0 0)]) 24 (.list []):=by and_intros<;>kernel_rfl
@[simp] theorem ap0:gB Tryz.prog 204=true:=by kernel_rfl
@[simp] theorem ayv:T5 229 (.slice 178) 1 ([.lit (.slice none 0 0)]) 24 (.list []):=by and_intros<;>kernel_rfl
@[simp] theorem ap1:gB Tryz.prog 229=true:=by kernel_rfl
@[simp] theorem ayw:T2 232 (.func) 1:=by and_intros<;>kernel_rfl
@[simp] theorem ayx:T2 255 (.func) 1:=by and_intros<;>kernel_rfl
@[simp] theorem ayy:T5 274 (.arr 256 5) 256 (List.replicate 256 (.d (.int .u8 0))) 256 (.agg (List.replicate 256 (.int .u8 0))):=by and_intros<;>kernel_rfl
@[simp] theorem al9:bZ Tryz.prog 274=none:=by kernel_rfl
@[simp] theorem ayz:T2 276 (.func) 1:=by and_intros<;>kernel_rfl
@[simp] theorem ayA:T2 302 (.func) 1:=by and_intros<;>kernel_rfl
@[simp] theorem ayB:T5 305 (.slice 307) 1 ([.lit (.slice none 0 0)]) 24 (.list []):=by and_intros<;>kernel_rfl
@[simp] theorem ap2:gB Tryz.prog 305=true:=by kernel_rfl
@[simp] theorem ayC:T5 306 (.struct) 2 ([.d (.int .i64 0),.d (.int .i64 0)]) 16 (.agg ([.int .i64 0,.int .i64 0])):=by and_intros<;>kernel_rfl
@[simp] theorem asx:FF 306 0 0 3:=by and_intros<;>kernel_rfl
@[simp] theorem asy:FF 306 1 1 3:=by and_intros<;>kernel_rfl
@[simp] theorem ama:bZ Tryz.prog 306=some [(0,1),(1,1)]/\eK Tryz.prog 306=some [.int .i64,.int .i64]:=by and_intros<;>kernel_rfl
@[simp] theorem ayD:T5 307 (.struct) 2 ([.d (.int .i64 0),.d (.int .i64 0)]) 16 (.agg ([.int .i64 0,.int .i64 0])):=by and_intros<;>kernel_rfl
@[simp] theorem asz:FF 307 0 0 3:=by and_intros<;>kernel_rfl
@[simp] theorem asA:FF 307 1 1 3:=by and_intros<;>kernel_rfl
@[simp] theorem amb:bZ Tryz.prog 307=some [(0,1),(1,1)]/\eK Tryz.prog 307=some [.int .i64,.int .i64]:=by and_intros<;>kernel_rfl
@[simp] theorem ayE:T5 308 (.int .u32) 1 ([.d (.int .u32 0)]) 4 (.int .u32 0):=by and_intros<;>kernel_rfl
@[simp] theorem ayF:T2 310 (.ptr 340) 1:=by and_intros<;>kernel_rfl
@[simp] theorem ayG:T5 337 (.slice 342) 1 ([.lit (.slice none 0 0)]) 24 (.list []):=by and_intros<;>kernel_rfl
@[simp] theorem ap3:gB Tryz.prog 337=true:=by kernel_rfl
@[simp] theorem ayH:T5 338 (.slice 345) 1 ([.lit (.slice none 0 0)]) 24 (.list []):=by and_intros<;>kernel_rfl
@[simp] theorem ap4:gB Tryz.prog 338=true:=by kernel_rfl
@[simp] theorem ayI:T5 339 (.struct) 3 ([.lit (.slice none 0 0),.lit (.slice none 0 0),.d (.int .i64 0)]) 56 (.agg ([.list [],.list [],.int .i64 0])):=by and_intros<;>kernel_rfl
@[simp] theorem asB:FF 339 0 0 337:=by and_intros<;>kernel_rfl
@[simp] theorem asC:FF 339 1 1 338:=by and_intros<;>kernel_rfl
@[simp] theorem asD:FF 339 2 2 3:=by and_intros<;>kernel_rfl
@[simp] theorem amc:bZ Tryz.prog 339=some [(0,1),(1,1),(2,1)]:=by kernel_rfl
@[simp] theorem ayJ:T5 340 (.struct) 3 ([.lit (.slice none 0 0),.lit (.slice none 0 0),.d (.int .i64 0)]) 56 (.agg ([.list [],.list [],.int .i64 0])):=by and_intros<;>kernel_rfl
@[simp] theorem asF:FF 340 0 0 337:=by and_intros<;>kernel_rfl
@[simp] theorem asG:FF 340 1 1 338:=by and_intros<;>kernel_rfl
@[simp] theorem asH:FF 340 2 2 3:=by and_intros<;>kernel_rfl
@[simp] theorem amd:bZ Tryz.prog 340=some [(0,1),(1,1),(2,1)]:=by kernel_rfl
@[simp] theorem ayK:T5 341 (.struct) 3 ([.d (.int .u16 0),.d (.int .u16 0),.d (.int .u16 0)]) 6 (.agg ([.int .u16 0,.int .u16 0,.int .u16 0])):=by and_intros<;>kernel_rfl
@[simp] theorem asI:FF 341 0 0 103:=by and_intros<;>kernel_rfl
@[simp] theorem asJ:FF 341 1 1 103:=by and_intros<;>kernel_rfl
@[simp] theorem asK:FF 341 2 2 103:=by and_intros<;>kernel_rfl
@[simp] theorem ame:bZ Tryz.prog 341=some [(0,1),(1,1),(2,1)]/\eK Tryz.prog 341=some [.int .u16,.int .u16,.int .u16]:=by and_intros<;>kernel_rfl
@[simp] theorem ayL:T5 342 (.struct) 3 ([.d (.int .u16 0),.d (.int .u16 0),.d (.int .u16 0)]) 6 (.agg ([.int .u16 0,.int .u16 0,.int .u16 0])):=by and_intros<;>kernel_rfl
@[simp] theorem asL:FF 342 0 0 103:=by and_intros<;>kernel_rfl
@[simp] theorem asM:FF 342 1 1 103:=by and_intros<;>kernel_rfl
@[simp] theorem asN:FF 342 2 2 103:=by and_intros<;>kernel_rfl
@[simp] theorem amf:bZ Tryz.prog 342=some [(0,1),(1,1),(2,1)]/\eK Tryz.prog 342=some [.int .u16,.int .u16,.int .u16]:=by and_intros<;>kernel_rfl
@[simp] theorem ayM:T5 344 (.struct) 3 ([.d (.int .u32 0),.d (.int .u32 0),.d (.int .u32 0)]) 12 (.agg ([.int .u32 0,.int .u32 0,.int .u32 0])):=by and_intros<;>kernel_rfl
@[simp] theorem asO:FF 344 0 0 308:=by and_intros<;>kernel_rfl
@[simp] theorem asP:FF 344 1 1 308:=by and_intros<;>kernel_rfl
@[simp] theorem asQ:FF 344 2 2 308:=by and_intros<;>kernel_rfl
@[simp] theorem amg:bZ Tryz.prog 344=some [(0,1),(1,1),(2,1)]/\eK Tryz.prog 344=some [.int .u32,.int .u32,.int .u32]:=by and_intros<;>kernel_rfl
@[simp] theorem ayN:T5 345 (.struct) 3 ([.d (.int .u32 0),.d (.int .u32 0),.d (.int .u32 0)]) 12 (.agg ([.int .u32 0,.int .u32 0,.int .u32 0])):=by and_intros<;>kernel_rfl
@[simp] theorem asR:FF 345 0 0 308:=by and_intros<;>kernel_rfl
@[simp] theorem asS:FF 345 1 1 308:=by and_intros<;>kernel_rfl
@[simp] theorem asT:FF 345 2 2 308:=by and_intros<;>kernel_rfl
@[simp] theorem amh:bZ Tryz.prog 345=some [(0,1),(1,1),(2,1)]/\eK Tryz.prog 345=some [.int .u32,.int .u32,.int .u32]:=by and_intros<;>kernel_rfl
@[simp] theorem ayO:T2 356 (.ptr 342) 1:=by and_intros<;>kernel_rfl
@[simp] theorem ayP:T2 357 (.ptr 345) 1:=by and_intros<;>kernel_rfl
@[simp] theorem ayQ:T3 367 (.struct) 4 ([.lit (.pointer none),.lit (.pointer none),.lit (.pointer none),.d (.str [])]):=by and_intros<;>kernel_rfl
@[simp] theorem asU:FF 367 0 0 17:=by and_intros<;>kernel_rfl
@[simp] theorem asV:FF 367 1 1 17:=by and_intros<;>kernel_rfl
@[simp] theorem asW:FF 367 2 2 17:=by and_intros<;>kernel_rfl
@[simp] theorem asX:FF 367 3 3 9:=by and_intros<;>kernel_rfl
@[simp] theorem ami:bZ Tryz.prog 367=some [(0,1),(1,1),(2,1),(3,1)]:=by kernel_rfl
@[simp] theorem ayR:T3 368 (.struct) 4 ([.lit (.pointer none),.lit (.pointer none),.lit (.pointer none),.d (.str [])]):=by and_intros<;>kernel_rfl
@[simp] theorem asY:FF 368 0 0 17:=by and_intros<;>kernel_rfl
@[simp] theorem asZ:FF 368 1 1 17:=by and_intros<;>kernel_rfl
@[simp] theorem as0:FF 368 2 2 17:=by and_intros<;>kernel_rfl
@[simp] theorem as1:FF 368 3 3 9:=by and_intros<;>kernel_rfl
@[simp] theorem amj:bZ Tryz.prog 368=some [(0,1),(1,1),(2,1),(3,1)]:=by kernel_rfl
@[simp] theorem ayS:T5 369 (.arr 0 16) 0 ([]) 0 (.agg ([])):=by and_intros<;>kernel_rfl
@[simp] theorem amk:bZ Tryz.prog 369=none:=by kernel_rfl
@[simp] theorem ayT:T5 370 (.struct) 0 ([]) 0 (.agg ([])):=by and_intros<;>kernel_rfl
@[simp] theorem aml:bZ Tryz.prog 370=some [(0,0)]:=by kernel_rfl
@[simp] theorem ayU:T5 371 (.struct) 0 ([]) 0 (.agg ([])):=by and_intros<;>kernel_rfl
@[simp] theorem amm:bZ Tryz.prog 371=some [(0,0)]:=by kernel_rfl
@[simp] theorem ayV:T5 372 (.int .u8) 1 ([.d (.int .u8 0)]) 1 (.int .u8 0):=by and_intros<;>kernel_rfl
@[simp] theorem ayW:T5 373 (.int .u8) 1 ([.d (.int .u8 0)]) 1 (.int .u8 0):=by and_intros<;>kernel_rfl
@[simp] theorem ayX:T2 374 (.func) 1:=by and_intros<;>kernel_rfl
@[simp] theorem ayY:T2 375 (.ptr 5) 1:=by and_intros<;>kernel_rfl
@[simp] theorem ayZ:T5 376 (.int .i32) 1 ([.d (.int .i32 0)]) 4 (.int .i32 0):=by and_intros<;>kernel_rfl
@[simp] theorem ay0:T5 377 (.int .i32) 1 ([.d (.int .i32 0)]) 4 (.int .i32 0):=by and_intros<;>kernel_rfl
@[simp] theorem ay1:T3 378 (.struct) 11 ([.d (.int .u64 0),.d (.int .u64 0),.d (.int .u32 0),.d (.int .u8 0),.d (.int .u8 0),.d (.int .u8 0),.d (.int .u8 0),.lit .nilFunc,.lit (.pointer none),.d (.int .i32 0),.d (.int .i32 0)]):=by and_intros<;>kernel_rfl
@[simp] theorem as2:FF 378 0 0 12:=by and_intros<;>kernel_rfl
@[simp] theorem as3:FF 378 1 1 12:=by and_intros<;>kernel_rfl
@[simp] theorem as4:FF 378 2 2 308:=by and_intros<;>kernel_rfl
@[simp] theorem as5:FF 378 3 3 372:=by and_intros<;>kernel_rfl
@[simp] theorem as6:FF 378 4 4 5:=by and_intros<;>kernel_rfl
@[simp] theorem as7:FF 378 5 5 5:=by and_intros<;>kernel_rfl
@[simp] theorem as8:FF 378 6 6 373:=by and_intros<;>kernel_rfl
@[simp] theorem as9:FF 378 7 7 374:=by and_intros<;>kernel_rfl
@[simp] theorem ata:FF 378 8 8 375:=by and_intros<;>kernel_rfl
@[simp] theorem atb:FF 378 9 9 376:=by and_intros<;>kernel_rfl
@[simp] theorem ap5:FF 378 10 10 377:=by and_intros<;>kernel_rfl
@[simp] theorem amn:bZ Tryz.prog 378=some [(0,1),(1,1),(2,1),(3,1),(4,1),(5,1),(6,1),(7,1),(8,1),(9,1),(10,1)]:=by kernel_rfl
@[simp] theorem ay2:T3 379 (.struct) 11 ([.d (.int .u64 0),.d (.int .u64 0),.d (.int .u32 0),.d (.int .u8 0),.d (.int .u8 0),.d (.int .u8 0),.d (.int .u8 0),.lit .nilFunc,.lit (.pointer none),.d (.int .i32 0),.d (.int .i32 0)]):=by and_intros<;>kernel_rfl
@[simp] theorem atc:FF 379 0 0 12:=by and_intros<;>kernel_rfl
@[simp] theorem atd:FF 379 1 1 12:=by and_intros<;>kernel_rfl
@[simp] theorem ate:FF 379 2 2 308:=by and_intros<;>kernel_rfl
@[simp] theorem atf:FF 379 3 3 372:=by and_intros<;>kernel_rfl
@[simp] theorem atg:FF 379 4 4 5:=by and_intros<;>kernel_rfl
@[simp] theorem ath:FF 379 5 5 5:=by and_intros<;>kernel_rfl
@[simp] theorem ati:FF 379 6 6 373:=by and_intros<;>kernel_rfl
@[simp] theorem atj:FF 379 7 7 374:=by and_intros<;>kernel_rfl
@[simp] theorem atk:FF 379 8 8 375:=by and_intros<;>kernel_rfl
@[simp] theorem atl:FF 379 9 9 376:=by and_intros<;>kernel_rfl
@[simp] theorem ap6:FF 379 10 10 377:=by and_intros<;>kernel_rfl
@[simp] theorem amo:bZ Tryz.prog 379=some [(0,1),(1,1),(2,1),(3,1),(4,1),(5,1),(6,1),(7,1),(8,1),(9,1),(10,1)]:=by kernel_rfl
end Go.Am
end
section
namespace Go.Am
open Go
def aab:List D->Option D
 |[.str s,.str t]=>if s.length<4294967281 then some (.int .i64 (Go.Lib.index s t))else none
 |_=>none
def ibO:List D->Option D
 |[.str s,.int .u8 c]=>some (.int .i64 (Go.Lib.indexByte s c.toNat.toUInt8))
 |_=>none
def hpO:List D->Option D
 |[.str s,.str p]=>some (.bool (Go.Lib.hasPrefix s p))
 |_=>none
attribute [simp] aab.eq_1 ibO.eq_1 hpO.eq_1
section
variable {X:Ctx} {Y:bP} {md:Bool} {all:List Oper} {S:St}
@[simp] theorem alm{d:Option Tmp}{op:Op}{ty:TypeId}{pos:String}{O:Array Edge}:eZ X Y md all S ⟨d,op,ty,pos,O,none⟩=fO X Y S ⟨d,op,ty,pos,O,none⟩ (dP X.P S ⟨d,op,ty,pos,O,none⟩):=rfl
@[simp] theorem atm{J:List Nat}{i:Nat}{E:List bf}:ux X md all J i [] S E=some (Cq E []):=by rw[Dq,ad9];rfl
theorem WJ{J:List Nat}{i:Nat}{o:Oper}{r:List Oper}{E:List bf}:ux X md all J i (o::r) S E=if J.contains i=true then (match eZ X (λ_ _ _=>none) md all S o with
 |some (S1,p)=>ux X md all J (i+1) r S1 (p::E)
 |none=>none)else ux X md all J (i+1) r (S.put o.dst false .bm) (⟨[],[],false,.bm⟩::E):=by
 simp only[ux];cases J.contains i<;>rfl
end
attribute [simp] WJ fO.eq_1 fO.eq_2 fO.eq_3 SF.eq_1 SD.eq_1 SD.eq_2 hY.eq_1 hY.eq_2 hP.eq_1 hP.eq_2 lF.eq_1 lF.eq_2 St.kill.eq_1 H0.eq_1 H0.eq_2 BW.eq_1 BW.eq_2
attribute [simp] ahd aeL Z8 WA
section
variable {T M α:Type} {X:Ctx} {md:Bool} {U:Nat×List (List Nat)} {S:St} {d:Option Nat} {all q:List Oper} {E:List bf} {k:Kt} {r:PR T M α} {f:α->M->Option gU} {g:T->M->Option gU}
@[simp] theorem ap7:rp X md U S d all q E k (r.el f g)=r.el (λa s=>rp X md U S d all q E k (f a s)) (λe s=>rp X md U S d all q E k (g e s)):=by cases r<;>rfl
@[simp] theorem awL:Ab S (r.el f g)=r.el (λa s=>Ab S (f a s)) (λe s=>Ab S (g e s)):=by cases r<;>rfl
@[simp] theorem awM{p:aP}{V:Nat}{rs:List ResultVar}{f:α->M->Option St}{g:T->M->Option St}:EP X p V rs (r.el f g)=r.el (λa s=>EP X p V rs (f a s)) (λe s=>EP X p V rs (g e s)):=by cases r<;>rfl
end
attribute [simp] Wv Tk Ww Tl Tm O3 Tn Wx Wy To
attribute [simp] GR.eq_1 Ih.eq_1 MA.eq_1 Ky.eq_1 Ky.eq_2 acO.eq_1 acO.eq_2 EP.eq_1 EP.eq_2 Ab.eq_1 EO.eq_1 EO.eq_2 EO.eq_3 Dg.eq_1 Wz acP.eq_1 acP.eq_2
section
variable {X:Ctx} {f:FuncId} {S:St} {H:List DF} {I:Cu} {b:Code}
@[simp] theorem awN:GR X f b I .ret S H=I .ret S H:=rfl
@[simp] theorem awO{t:TypeId}{x:D}:GR X f b I (.panic t x) S H=I (.panic t x) S H:=rfl
@[simp] theorem awP{i:Nat}:GR X f b I (.exit i) S H=I (.exit i) S H:=rfl
@[simp] theorem ap8{id:Nat}{t:TypeId}{x:D}:Ih X f id I (.panic t x) S H=I (.panic t x) S H:=rfl
@[simp] theorem atn{md:Bool}{all r:List Oper}{t:TypeId}{x:D}:MA X md all r H I (.panic t x) S=I (.panic t x) S H:=rfl
end
@[simp] theorem afM:m8 none=[]:=rfl
@[simp] theorem afN(k v:Nat):m8 (some ⟨k,v,.dead⟩)=[]:=rfl
@[simp] theorem ahm(k v:Nat)(cs:List AV):m8 (some ⟨k,v,.box cs⟩)=mD cs:=rfl
@[simp] theorem ahn(k v sz:Nat)(aj:List D):m8 (some ⟨k,v,.vec sz aj⟩)=[]:=rfl
@[simp] theorem aho(k v:Nat)(aj:List (List D)):m8 (some ⟨k,v,.vv aj none⟩)=[]:=rfl
@[simp] theorem aln(k v:Nat)(aj:List (List D))(x:AV):m8 (some ⟨k,v,.vv aj (some x)⟩)=kg x:=rfl
@[simp] theorem awQ(m ρ bor nv aj y):yg m ρ bor nv (.vv aj y)=.vv aj (y.map (vw m ρ bor nv)):=rfl
@[simp] theorem ap9(aj y):nr (.vv aj y)=(aj.all nA&&(match y with|none=>true|some x=>eB x)):=rfl
@[simp] theorem ay3(ρ bs aj y):F5 ρ bs (.vv aj y)=.vv aj (y.map (up ρ bs)):=rfl
@[simp] theorem awR(I aj y):sm I (.vv aj y)=.vv aj (y.map I):=rfl
@[simp] theorem ato{H:Nat}{b:Bool}{c:Prop}[Decidable c]{x y:Option (Out×List (Nat×aJ))}:sx H b (if c then x else y)=if c then sx H b x else sx H b y:=by split<;>rfl
@[simp] theorem afO(P t E len ps):iM P t E len ps none=none:=by
 unfold iM;split<;>simp_all
@[simp] theorem amp(P t E len n x o):iM P t E len [(n,.d x)] o=none:=by
 unfold iM;split<;>simp_all
@[simp] theorem ahp(P t E len n x o):iM P t E len [(n,.agg x)] o=none:=by
 unfold iM;split<;>simp_all
@[simp] theorem ahq(P t E len o):iM P t E len [] o=none:=by
 unfold iM;split<;>simp_all
@[simp] theorem ahr(P t E len p q r o):iM P t E len (p::q::r) o=none:=by
 unfold iM;split<;>simp_all
@[simp] theorem ahs(P t E len k v c):iM P t E len [(0,.lit (.slice none 0 0))] (some ⟨k,v,c⟩)=(match tk P t with
 | .slice e=>match gE P e,ob P e with
  |some sz,some _=>some (.dJ (sz=1/\len=1) (.vec E (v+1) 0 1) ⟨E,v+1,.box [.lit (.slice none 0 0)]⟩)
  |_,_=>none
 |_=>none):=rfl
attribute [simp] sW.eq_1
attribute [simp] FN.eq_1 zI.eq_1
attribute [simp] Gh.go St.fS.eq_1 St.cls.eq_1 St.shut.eq_1 St.tT.eq_1
end Go.Am
end
section
namespace Go.Am
open Go
open Go.Proofs
set_option maxRecDepth 10000
@[simp] def acS:Nat->List Nat
 |0=>[1,2]
 |1=>[1,2,16]
 |2=>[4]
 |3=>[1,2]
 |4=>[1,2,5,6]
 |5=>[1,2,5,28]
 |6=>[1,2,7,8]
 |7=>[2,41]
 |8=>[4]
 |9=>[2,55]
 |10=>[4]
 |11=>[9,10]
 |12=>[9,62]
 |13=>[4]
 |14=>[9,11,12]
 |15=>[9,12,13,14]
 |16=>[4]
 |_=>[]
@[simp] def md4:Nat->Bool
 |7=>true
 |9=>true
 |16=>true
 |_=>false
@[simp] def fp4:aP:=⟨[],false,[200,350,550,750],[],false⟩
@[simp] def WK:Nat->List Nat
 |0=>[1]
 |1=>[1,3]
 |2=>[2]
 |_=>[]
@[simp] def aac:aP:=⟨[],false,[150],[],false⟩
@[simp] def WL:Nat->List Nat
 |0=>[1]
 |1=>[1,14]
 |2=>[2]
 |3=>[1,3]
 |4=>[1,3,19]
 |5=>[1,3]
 |6=>[1,3,4]
 |7=>[1,3,4,40]
 |8=>[2]
 |9=>[1,3,4,54]
 |10=>[2]
 |11=>[1,3,4,93]
 |12=>[2]
 |13=>[1,3,125]
 |14=>[2]
 |15=>[2]
 |_=>[]
@[simp] def ahu:Nat->Bool
 |9=>true
 |11=>true
 |13=>true
 |_=>false
@[simp] def aad:aP:=⟨[],false,[150,300],[],false⟩
@[simp] def WM:Nat->List Nat
 |0=>[1,2]
 |1=>[1,2,3]
 |2=>[1,2,3,4]
 |3=>[1,2,3,4,11]
 |4=>[1,2,3,4]
 |5=>[1,2,3,4,6]
 |6=>[1,2,3,4,28]
 |7=>[2]
 |8=>[1,2,3,4]
 |9=>[1,2,3,4,45]
 |10=>[2]
 |11=>[2]
 |_=>[]
@[simp] def ahv:Nat->List (List Nat)
 |5=>[[2,4,5,6,7,8,9,14],[2,4,5,6,7,8,9,14],[0,1,4,5,6,7,8,9,14],[4,5,6,7,8,9,14],[0,1,2,3,6,14],[0,1,2,3,6,14],[0,1,2,3,4,5,14],[0,1,2,3,14],[0,1,2,3,14],[0,1,2,3,14],[14],[14],[13,14],[12,14,15],[0,1,2,3,4,5,6,7,8,9,10,11,12,13],[13],[]]
 |_=>[]
@[simp] def aae:aP:=⟨[],false,[150,200,350],[],false⟩
@[simp] def WN:Nat->List Nat
 |0=>[1,2]
 |1=>[1,2,4]
 |2=>[1,2,4,5]
 |3=>[2,4,5]
 |4=>[2,4,5]
 |5=>[2,4,5]
 |6=>[2,4,5,39]
 |7=>[2,3]
 |8=>[2,3]
 |_=>[]
@[simp] def ahw:Nat->List (List Nat)
 |8=>[[4,5,6,7,8],[4,5,6,7,8],[4,5,6,7,8],[4,5,6,7,8],[0,1,2,3,5,6,7,8],[0,1,2,3,4],[0,1,2,3,4],[0,1,2,3,4],[0,1,2,3,4],[],[],[]]
 |_=>[]
@[simp] def ahx:Nat->List Gh
 |2=>[.o8 700 3 701 5,.tT 700 7 702,.o8 700 8 703 1]
 |_=>[]
@[simp] def aaf:aP:=⟨[],false,[150,200,700,701,702,703],[],false⟩
@[simp] def WO:Nat->List Nat
 |0=>[1]
 |1=>[3]
 |2=>[2]
 |_=>[]
@[simp] def ahy:Nat->Bool
 |2=>true
 |_=>false
@[simp] def ahz:Nat->List (List Nat)
 |1=>[[1,2,3,4],[0],[0],[0],[0],[],[],[]]
 |_=>[]
@[simp] def ahA:Nat->List Gh
 |1=>[.o8 600 3 601 1]
 |_=>[]
@[simp] def aag:aP:=⟨[],false,[150,500,600,601],[],false⟩
@[simp] def WQ:Nat->List Nat
 |0=>[]
 |1=>[1,2]
 |2=>[1,2,3,4]
 |3=>[0]
 |_=>[]
@[simp] def ahB:Nat->Bool
 |3=>true
 |_=>false
@[simp] def ahC:aP:=⟨[],false,[250],[],false⟩
@[simp] def WR:Nat->List Nat
 |0=>[0,2]
 |1=>[2,4,5]
 |2=>[2,4,5,15]
 |3=>[2,3]
 |4=>[2,6]
 |5=>[2,6,7]
 |6=>[2,6,7,8]
 |7=>[2,6,7,8,39]
 |8=>[2,6,7,8]
 |9=>[2,6,7,8]
 |10=>[2,6,7,49]
 |11=>[2,3]
 |12=>[2,7,60]
 |13=>[2,3]
 |14=>[2,7,68]
 |15=>[2,3]
 |16=>[2,3]
 |_=>[]
@[simp] def ahD:Nat->List (List Nat)
 |9=>[[2,3,4],[2,3,4],[0,1],[0,1],[0,1],[],[],[]]
 |11=>[[1,2,3,4],[0,5],[0,5],[0,5],[0,5],[1,2,3,4],[]]
 |_=>[]
@[simp] def ahE:Nat->List Gh
 |5=>[.o8 450 0 451 5]
 |_=>[]
@[simp] def aah:aP:=⟨[],false,[200,450,451,1100],[],false⟩
@[simp] def WS:Nat->List Nat
 |0=>[1]
 |1=>[1,16]
 |2=>[2,3]
 |3=>[1,4]
 |4=>[1,4,26,27,28]
 |5=>[1,4,26,27,28,29]
 |6=>[1,4,6,26,27,28]
 |7=>[1,4,26,27,28]
 |8=>[1,4,26,27,28]
 |9=>[4,38,39,40]
 |10=>[4,38,39,40,41]
 |11=>[4,8,38,39,40]
 |12=>[4,38,39,40]
 |13=>[4,38,39,40]
 |14=>[2,3]
 |_=>[]
@[simp] def ahF:Nat->Bool
 |1=>true
 |_=>false
@[simp] def aai:aP:=⟨[],true,[150,200,500,950],[],false⟩
@[simp] def WT:Nat->List Nat
 |0=>[0,1]
 |1=>[0,1,10]
 |2=>[4]
 |3=>[0,1,5]
 |4=>[0,1,5,14]
 |5=>[0,1,5]
 |6=>[0,1,5,25]
 |7=>[4]
 |8=>[4]
 |_=>[]
@[simp] def ahG:Nat->List (List Nat)
 |6=>[[1,4,5,6,7],[0,4,5,6,7],[4,5,6,7],[4,5,6,7],[0,1,2,3,5],[0,1,2,3,4],[0,1,2,3],[0,1,2,3],[]]
 |_=>[]
@[simp] def aaj:aP:=⟨[],false,[],[],false⟩
@[simp] def WU:Nat->List Nat
 |0=>[2,3]
 |1=>[2,3,26]
 |2=>[4]
 |3=>[2,3,5]
 |4=>[2,3,5,31]
 |5=>[2,3,5]
 |6=>[2,3,5,44]
 |7=>[4]
 |8=>[4]
 |_=>[]
@[simp] def ahH:Nat->List (List Nat)
 |6=>[[2,5,6,7,8,9],[2,5,6,7,8,9],[0,1,5,6,7,8,9],[5,6,7,8,9],[5,6,7,8,9],[0,1,2,3,4,7],[0,1,2,3,4,7],[0,1,2,3,4,5,6],[0,1,2,3,4],[0,1,2,3,4],[]]
 |_=>[]
@[simp] def aak:aP:=⟨[],false,[200,250],[],false⟩
@[simp] def WV:Nat->List Nat
 |0=>[1,2]
 |1=>[1,2]
 |2=>[2]
 |_=>[]
@[simp] def aal:aP:=⟨[],false,[150,200],[],false⟩
@[simp] def WW:Nat->List Nat
 |0=>[1,2]
 |1=>[2,6,7]
 |2=>[4,5]
 |_=>[]
@[simp] def aam:aP:=⟨[],false,[200],[],false⟩
@[simp] def WX:Nat->List Nat
 |0=>[0]
 |1=>[0,17]
 |2=>[2]
 |3=>[0,3]
 |4=>[0,3,21]
 |5=>[0,3]
 |6=>[0,3,4]
 |7=>[0,3,4,5]
 |8=>[0,3,58]
 |9=>[2]
 |10=>[2]
 |_=>[]
@[simp] def ahI:Nat->Bool
 |1=>true
 |7=>true
 |8=>true
 |_=>false
@[simp] def aan:aP:=⟨[],false,[],[],false⟩
@[simp] def WY:Nat->List Nat
 |0=>[0]
 |1=>[0,3]
 |2=>[0,3,4]
 |3=>[0,3,4,9]
 |4=>[0,3,4]
 |5=>[0,3,4,18]
 |6=>[2]
 |7=>[2]
 |_=>[]
@[simp] def aao:aP:=⟨[],false,[],[],false⟩
@[simp] def WZ:Nat->List Nat
 |0=>[0]
 |1=>[0,3]
 |2=>[0,3,20]
 |3=>[0,3]
 |4=>[0,3,4]
 |5=>[0,3,4,5,6,7]
 |6=>[0,3,4,6,7,59]
 |7=>[2]
 |8=>[0,3,4,7,89]
 |9=>[2]
 |10=>[0,3,4,118]
 |11=>[2]
 |12=>[0,3,4,8,9,10,11,12]
 |13=>[0,3,4,8,9,10,11,12,120]
 |14=>[0,3,4,8,9,10,11,12,120,121]
 |15=>[0,3,4,8,9,10,11,12]
 |16=>[0,3,4,8,9,10,11,12,120,131]
 |17=>[0,3,4,8,9,10,11,12]
 |18=>[0,3,4,8,9,10,11,12,120,139]
 |19=>[0,3,4,8,9,10,11,12]
 |20=>[0,3,4,8,9,10,11,12,120,141]
 |21=>[0,3,4,8,9,10,11,12,120,141]
 |22=>[0,3,4,8,9,10,11,12]
 |23=>[0,3,4,8,9,10,11,12,144]
 |24=>[0,3,4,8,9,10,11,12]
 |25=>[0,3,4,186]
 |26=>[2]
 |27=>[0,3,4,13]
 |28=>[0,3,4,13,191]
 |29=>[0,3,4,13]
 |30=>[0,3,4,13,200]
 |31=>[2]
 |32=>[0,3,4,14]
 |33=>[0,3,4,14,205]
 |34=>[0,3,4,14]
 |35=>[0,3,4,14,224]
 |36=>[2]
 |37=>[0,3,4,14,15]
 |38=>[0,3,4,14,15,232]
 |39=>[0,3,4,14,15]
 |40=>[0,3,4,14,15,243]
 |41=>[2]
 |42=>[0,3,4,16]
 |43=>[0,3,4,16,248]
 |44=>[0,3,4,16]
 |45=>[0,3,4,16,257]
 |46=>[2]
 |47=>[2]
 |_=>[]
@[simp] def ahJ:Nat->Bool
 |6=>true
 |8=>true
 |10=>true
 |35=>true
 |_=>false
@[simp] def ahK:Nat->List (List Nat)
 |15=>[[4,5,6,7],[4,5,6,7],[4,5,6,7],[4,5,6,7],[0,1,2,3,8],[0,1,2,3,8],[0,1,2,3,8],[0,1,2,3,8],[4,5,6,7],[],[]]
 |17=>[[3,4,5],[3,4,5],[3,4,5],[0,1,2,6],[0,1,2,6],[0,1,2,6],[3,4,5],[],[]]
 |24=>[[3,4,5],[3,4,5],[3,4,5],[0,1,2,6],[0,1,2,6],[0,1,2,6],[3,4,5],[]]
 |_=>[]
@[simp] def aap:aP:=⟨[],false,[300],[],false⟩
@[simp] def W0:Nat->List Nat
 |0=>[0,1,4]
 |1=>[0,1,4,6]
 |2=>[0,1,4,6,10]
 |3=>[0,1,4,6]
 |4=>[0,1,4,6,19]
 |5=>[4,5]
 |6=>[4,5]
 |_=>[]
@[simp] def aaq:aP:=⟨[],false,[300],[],false⟩
@[simp] def W1:Nat->List Nat
 |0=>[1]
 |1=>[1,4]
 |2=>[2]
 |3=>[1,13]
 |4=>[2]
 |5=>[2]
 |_=>[]
@[simp] def aar:aP:=⟨[],false,[150],[],false⟩
@[simp] def W2:Nat->List Nat
 |0=>[0,1,2,6]
 |1=>[0,1,2,6,7]
 |2=>[0,1,2,6,7,12]
 |3=>[0,1,2,6,7]
 |4=>[0,1,2,6,7,8]
 |5=>[0,1,2,6,7,8,24]
 |6=>[6]
 |7=>[6]
 |_=>[]
@[simp] def aas:aP:=⟨[],false,[400,500],[],false⟩
@[simp] def W3:Nat->List Nat
 |0=>[1,2]
 |1=>[1,2,3]
 |2=>[2,3,8,9,10]
 |3=>[2,3,8,9,10,11]
 |4=>[2,3,5,8,9,10]
 |5=>[2,3,5,8,9,10]
 |6=>[2,3,5,6,8,9,10]
 |7=>[2,3,5,6,8,9,10]
 |8=>[2,3,5,8,9,10]
 |9=>[2,3,5,8,9,10,40]
 |10=>[2,3,8,9,10]
 |11=>[2,3,8,9,10]
 |12=>[2]
 |_=>[]
@[simp] def ahL:Nat->List Gh
 |1=>[.o8 250 0 251 1,.o8 250 2 252 1]
 |_=>[]
@[simp] def aat:aP:=⟨[],false,[150,200,250,251,252,350],[],false⟩
@[simp] def W4:Nat->List Nat
 |0=>[0,6,7,8]
 |1=>[0,6,7,8,9]
 |2=>[0,5,6,7,8]
 |3=>[0,6,7,8]
 |4=>[0,6,7,8]
 |_=>[]
@[simp] def aau:aP:=⟨[1,2,3,4,5,6,7,8],false,[350],[],false⟩
@[simp] def W5:Nat->List Nat
 |0=>[0,6,7,8]
 |1=>[0,6,7,8,9]
 |2=>[0,5,6,7,8]
 |3=>[0,6,7,8]
 |4=>[0,6,7,8]
 |_=>[]
@[simp] def aav:aP:=⟨[1,2,3,4,5,6,7,8],false,[],[1],false⟩
@[simp] def W6:Nat->List Nat
 |0=>[0,2,4]
 |1=>[0,2]
 |2=>[0]
 |3=>[0]
 |4=>[6]
 |_=>[]
@[simp] def ahM:Nat->List (List Nat)
 |1=>[[1,2,3,4,5,6,7],[0,5,6],[0,5,6],[0,5,6],[0,5,6],[0,1,2,3,4],[0,1,2,3,4],[0],[],[],[]]
 |3=>[[1,2,3,4,5,6,7,8,9],[0,5,6,7,8],[0,5,6,7,8],[0,5,6,7,8],[0,5,6,7,8],[0,1,2,3,4],[0,1,2,3,4],[0,1,2,3,4],[0,1,2,3,4],[0],[],[],[]]
 |_=>[]
@[simp] def aaw:aP:=⟨[1,2,3,4,5,6,7,8],false,[300],[],false⟩
@[simp] def W7:Nat->List Nat
 |0=>[0]
 |1=>[0,3]
 |2=>[0,3,4]
 |3=>[0,3,51]
 |4=>[2]
 |5=>[0,53,54,55]
 |6=>[0,53,54,55,56]
 |7=>[0,5,6,53,54,55]
 |8=>[0,53,54,55,64]
 |9=>[2]
 |10=>[0,53,54,55]
 |11=>[2]
 |_=>[]
@[simp] def ahN:Nat->Bool
 |3=>true
 |_=>false
@[simp] def aax:aP:=⟨[1,2],false,[250,400],[],false⟩
@[simp] def W8:Nat->List Nat
 |0=>[0]
 |1=>[0,11,12,13]
 |2=>[0,11,12,13,14]
 |3=>[0,4,11,12,13]
 |4=>[0,4,11,12,13,24]
 |5=>[0,11,12,13]
 |6=>[0,11,12,13]
 |7=>[0,37,38,39]
 |8=>[0,37,38,39,40]
 |9=>[0,5,6,37,38,39]
 |10=>[0,37,38,39,61]
 |11=>[2]
 |12=>[0,37,38,39]
 |13=>[2]
 |_=>[]
@[simp] def ahO:Nat->Bool
 |10=>true
 |_=>false
@[simp] def ahP:Nat->List (List Nat)
 |5=>[[4,5],[4,5],[4,5],[4,5],[0,1,2,3],[0,1,2,3],[],[]]
 |_=>[]
@[simp] def aay:aP:=⟨[],false,[300,400],[],false⟩
@[simp] def W9:Nat->List Nat
 |0=>[0]
 |1=>[0,3]
 |2=>[0,3,17,18]
 |3=>[0,3,17,18,19]
 |4=>[0,3,4,17,18]
 |5=>[0,3,17,18,24]
 |6=>[2]
 |7=>[0,3,17,18]
 |8=>[2]
 |_=>[]
@[simp] def aaz:aP:=⟨[1,2],false,[650],[],false⟩
@[simp] def Xa:Nat->List Nat
 |0=>[0]
 |1=>[0,4]
 |2=>[0,4,8]
 |3=>[2,3]
 |4=>[0,4,12]
 |5=>[2,3]
 |6=>[0,4,35]
 |7=>[2,3]
 |8=>[2,3]
 |_=>[]
@[simp] def ahQ:Nat->Bool
 |4=>true
 |6=>true
 |_=>false
@[simp] def ahR:Nat->List (List Nat)
 |4=>[[],[],[],[4,7,8,9,10,11,12,13,14,15,16,17,18,19],[3,7,8,9,10,11,12,13,14,15,16,17,18,19],[7,8,9,10,11,12,13,14,15,16,17,18,19],[7,8,9,10,11,12,13,14,15,16,17,18,19],[3,4,5,6,8,13,14,15,16,17,18],[3,4,5,6,7,13,14,15,16,17,18],[3,4,5,6,13,14,15,16,17,18],[3,4,5,6,13,14,15,16,17,18],[3,4,5,6,13,14,15,16,17,18],[3,4,5,6,13,14,15,16,17,18],[3,4,5,6,7,8,9,10,11,12,14,15],[3,4,5,6,7,8,9,10,11,12,13],[3,4,5,6,7,8,9,10,11,12,13],[3,4,5,6,7,8,9,10,11,12],[3,4,5,6,7,8,9,10,11,12],[3,4,5,6,7,8,9,10,11,12],[3,4,5,6],[],[],[]]
 |_=>[]
@[simp] def aaA:aP:=⟨[],false,[],[],false⟩
@[simp] def Xb:Nat->List Nat
 |0=>[0,1]
 |1=>[0,1,21]
 |2=>[0,1]
 |3=>[0,1,29]
 |4=>[4]
 |5=>[0,1,5]
 |6=>[0,1,5,35,36,37]
 |7=>[0,1,5,35,36,37,38]
 |8=>[0,1,5,7,35,36,37]
 |9=>[0,1,5,35,36,37]
 |10=>[0,1,5,35,36,37]
 |11=>[5]
 |12=>[4]
 |_=>[]
@[simp] def aaB:aP:=⟨[],false,[],[],false⟩
@[simp] def Xc:Nat->List Nat
 |0=>[0,2]
 |1=>[0,2,3]
 |2=>[0,2,3,4,5,6,7,8]
 |3=>[0,2,3,4,5,6,7,30]
 |4=>[0,2,3,4,5,6,7]
 |5=>[0,2,3,5,6,7,34]
 |6=>[0,2,3,5,6,7]
 |7=>[0,2,3,6,7,39]
 |8=>[0,2,3,6,7]
 |9=>[0,2,3,7,44]
 |10=>[0,2,3,7]
 |11=>[0,2,3,49]
 |12=>[2,3]
 |13=>[2]
 |_=>[]
@[simp] def aaC:aP:=⟨[],false,[200,250],[],false⟩
@[simp] def Xd:Nat->List Nat
 |0=>[0,1]
 |1=>[4]
 |_=>[]
@[simp] def aaD:aP:=⟨[],false,[],[],false⟩
@[simp] def Xe:Nat->List Nat
 |0=>[1]
 |1=>[2]
 |_=>[]
@[simp] def aaE:aP:=⟨[],false,[150],[],false⟩
@[simp] def Xf:Nat->List Nat
 |0=>[1]
 |1=>[1,3,4,5,6,7]
 |2=>[2]
 |_=>[]
@[simp] def ahS:Nat->Bool
 |2=>true
 |_=>false
@[simp] def aaF:aP:=⟨[],false,[150],[],false⟩
@[simp] def Xg:Nat->List Nat
 |0=>[0,1,2]
 |1=>[0,1,7]
 |2=>[0,1,7,11]
 |3=>[0,1,7]
 |4=>[0,1,7]
 |5=>[6]
 |_=>[]
@[simp] def aaG:aP:=⟨[0],false,[],[0],false⟩
@[simp] def Xh:Nat->List Nat
 |0=>[0,3]
 |1=>[0,3,5,6,7,8]
 |2=>[0,3,5,6,7,8]
 |3=>[0,3,6,7,8,25]
 |4=>[0,3,6,7,8]
 |5=>[0,3,7,8,31]
 |6=>[0,3,7,8]
 |7=>[0,3,8,37]
 |8=>[0,3,8]
 |9=>[0,3,43]
 |10=>[0]
 |11=>[4]
 |_=>[]
@[simp] def aaH:aP:=⟨[0],false,[250],[0],false⟩
@[simp] def Xi:Nat->List Nat
 |0=>[0]
 |1=>[2]
 |_=>[]
@[simp] def aaI:aP:=⟨[],false,[],[],false⟩
@[simp] def Xj:Nat->List Nat
 |0=>[0]
 |1=>[0,14]
 |2=>[2]
 |3=>[0,3]
 |4=>[0,3,4]
 |5=>[0,3,4,19]
 |6=>[0,3,4]
 |7=>[0,3,4,28]
 |8=>[3,4,5]
 |9=>[3,4,5,6]
 |10=>[3,4,5,6,36]
 |11=>[3,4,5,6]
 |12=>[3,4,5,6,7]
 |13=>[3,4,5,6,7,8]
 |14=>[3,4,5,6,7,8,52]
 |15=>[3,4,5,6,7,8]
 |16=>[3,4,5,6,7,8,55]
 |17=>[3,4,5,6,7,8]
 |18=>[3,4,5,6,8]
 |19=>[3,4,5,6]
 |20=>[2]
 |21=>[2]
 |_=>[]
@[simp] def aaJ:aP:=⟨[],false,[350,500],[],false⟩
@[simp] def Xk:Nat->List Nat
 |0=>[0]
 |1=>[3,4]
 |2=>[3,12]
 |3=>[2]
 |4=>[3,5]
 |5=>[5,21,22]
 |6=>[5,21,22,23]
 |7=>[5,21,22]
 |8=>[5,21,22]
 |9=>[2]
 |_=>[]
@[simp] def ahT:Nat->List (List Nat)
 |4=>[[3,4],[3,4],[3,4],[0,1,2],[0,1,2],[],[],[]]
 |_=>[]
@[simp] def aaK:aP:=⟨[],false,[250,851],[],false⟩
@[simp] def Xl:Nat->List Nat
 |0=>[0]
 |1=>[0,3]
 |2=>[3,9,10,11]
 |3=>[3,9,10,11,12]
 |4=>[3,5,9,10,11]
 |5=>[3,5,9,10,11]
 |6=>[3,5,6,9,10,11]
 |7=>[3,5,6,9,10,11,28,29,30]
 |8=>[3,5,6,9,10,11,28,29,30,31]
 |9=>[3,5,6,8,9,10,11,28,29,30]
 |10=>[3,5,6,9,10,11,28,29,30]
 |11=>[3,5,6,9,10,11,28,29,30]
 |12=>[3,5,9,10,11]
 |13=>[3,9,10,11]
 |14=>[3,9,10,11]
 |15=>[2]
 |_=>[]
@[simp] def ahU:Nat->List (List Nat)
 |5=>[[3,4,6,7],[3,4,6,7],[3,4,6,7],[0,1,2,6,7],[0,1,2,6,7],[6,7,9],[0,1,2,3,4,5],[0,1,2,3,4,5],[9],[5,8],[],[],[],[],[]]
 |_=>[]
@[simp] def ahV:Nat->List Gh
 |1000002=>[.freeze 400]
 |_=>[]
@[simp] def aaL:aP:=⟨[],false,[250,350,400],[],false⟩
@[simp] def Xm:Nat->List Nat
 |0=>[0,1]
 |1=>[0,1,6,7]
 |2=>[0,1,6,7,8]
 |3=>[0,1,6,7,8,26]
 |4=>[0,1,6,7,8]
 |5=>[0,1,6,7,8]
 |6=>[0,1,6,7,8,9]
 |7=>[0,1,6,7,8,9,42,43,44]
 |8=>[0,1,6,7,8,9,42,43,44,45]
 |9=>[0,1,6,7,8,9,11,42,43,44]
 |10=>[0,1,6,7,8,9,12,13,42,43,44]
 |11=>[0,1,6,7,8,9,13,42,43,44]
 |12=>[0,1,6,7,8,9,42,43,44]
 |13=>[0,1,6,7,8,9,42,43,44]
 |14=>[0,1,6,7,8,9]
 |15=>[0,1,6,7,8,9,14]
 |16=>[0,1,6,7,8,9,14,88]
 |17=>[0,1,6,7,8,9,14]
 |18=>[0,1,6,7,8,9,14]
 |19=>[0,1,6,7,8,9,15]
 |20=>[0,1,6,7,8,9,15,111]
 |21=>[0,1,6,7,8,9,15]
 |22=>[0,1,6,7,8,9,15,16,17]
 |23=>[0,1,6,7,8,9,15,17]
 |24=>[0,1,6,7,8,9,15]
 |25=>[4,5]
 |_=>[]
@[simp] def aaM:aP:=⟨[],false,[550],[],false⟩
@[simp] def Xn:Nat->List Nat
 |0=>[0]
 |1=>[0,5,6,7]
 |2=>[0,5,6,7,8]
 |3=>[0,4,5,6,7]
 |4=>[0,5,6,7,13]
 |5=>[2]
 |6=>[0,5,6,7]
 |7=>[2]
 |_=>[]
@[simp] def aaN:aP:=⟨[],false,[],[],false⟩
@[simp] def Xo:Nat->List Nat
 |0=>[]
 |1=>[0]
 |_=>[]
@[simp] def ahW:aP:=⟨[],false,[],[],false⟩
@[simp] def Xp:Nat->List Nat
 |0=>[0]
 |1=>[2,3,4]
 |_=>[]
@[simp] def aaO:aP:=⟨[],false,[],[],false⟩
@[simp] def Xq:Nat->List Nat
 |0=>[0]
 |1=>[0,3]
 |2=>[0,3,11]
 |3=>[0,3]
 |4=>[0,3,4]
 |5=>[0,3,4,5,6,7]
 |6=>[0,3,4,5,6,7,18]
 |7=>[0,3,4,5,6,7,18]
 |8=>[0,3,4,5,6,7,18]
 |9=>[0,3,4,5,6,7,18]
 |10=>[0,3,4,5,6,7,18]
 |11=>[2]
 |12=>[0,3,4,5,6,7,54]
 |13=>[0,3,4,5,6,7]
 |14=>[0,3,4,5,6,7,58]
 |15=>[0,3,4,5,6,7]
 |16=>[0,3,4,5,6,7,62]
 |17=>[0,3,4,5,6,7]
 |18=>[0,3,4,5,6,7,66]
 |19=>[0,3,4,5,6,7]
 |20=>[0,3,4,5,6,7,75]
 |21=>[0,3,4,5,6,7]
 |22=>[0,3,125]
 |23=>[2]
 |24=>[2]
 |_=>[]
@[simp] def ahX:Nat->Bool
 |7=>true
 |22=>true
 |_=>false
@[simp] def aaP:aP:=⟨[],false,[300],[],false⟩
@[simp] def Xr:Nat->List Nat
 |0=>[1]
 |1=>[2]
 |_=>[]
@[simp] def aaQ:aP:=⟨[],false,[150],[],false⟩
@[simp] def Xs:Nat->List Nat
 |0=>[0,2,4,6]
 |1=>[0,2,4,6,25]
 |2=>[0,2,4,6,25,26]
 |3=>[0,4,6,7,8]
 |4=>[0,4,6,7,37]
 |5=>[6]
 |6=>[0,4,6,44]
 |7=>[6]
 |8=>[0,4,6,9,10]
 |9=>[0,4,6,9,10,58]
 |10=>[6]
 |11=>[4,6,9,10,11]
 |12=>[4,6,9,10,11,69]
 |13=>[6]
 |14=>[4,6,73]
 |15=>[6]
 |16=>[0,2,4,6,25,77]
 |17=>[0,2,4,6,12]
 |18=>[0,2,4,6,12,83]
 |19=>[0,2,4,6,12]
 |20=>[0,2,4,6,12,90]
 |21=>[0,2,4,6,12,13]
 |22=>[0,2,4,6,12,13,100]
 |23=>[6]
 |24=>[0,2,4,6,12,14]
 |25=>[0,2,4,6,12,14,112]
 |26=>[6]
 |27=>[0,2,4,6,25,114]
 |28=>[0,2,4,6,15]
 |29=>[0,2,4,6,15,122]
 |30=>[6]
 |31=>[0,2,4,6,16]
 |32=>[0,2,4,6,16,128]
 |33=>[0,2,4,6,16]
 |34=>[0,2,4,6,16,17]
 |35=>[0,2,4,6,16,17,141]
 |36=>[6]
 |37=>[0,2,4,6,25,143]
 |38=>[0,4,6,18,19]
 |39=>[0,4,6,18,153]
 |40=>[6]
 |41=>[0,4,6,18,159]
 |42=>[6]
 |43=>[0,4,6,169]
 |44=>[6]
 |45=>[0,4,6,20]
 |46=>[0,4,6,20,177]
 |47=>[0,4,6,20]
 |48=>[0,4,6,20,21]
 |49=>[0,4,6,20,21,189]
 |50=>[6]
 |51=>[6]
 |52=>[0,2,4,6,25,197]
 |53=>[0,4,6,22]
 |54=>[0,4,6,22,205]
 |55=>[6]
 |56=>[6]
 |57=>[0,2,4,6,25,213]
 |58=>[0,4,6,23]
 |59=>[0,4,6,23,223]
 |60=>[6]
 |61=>[6]
 |62=>[0,2,4,6,25,229]
 |63=>[4,6,232]
 |64=>[6]
 |65=>[0,4,6,236]
 |66=>[6]
 |67=>[6]
 |_=>[]
@[simp] def aaR:aP:=⟨[],false,[300,400,450,600,750,800,850,950,1000,1150,1200,1250],[],false⟩
@[simp] def Xt:Nat->List Nat
 |0=>[1]
 |1=>[1,3]
 |2=>[2]
 |3=>[1,12]
 |4=>[2]
 |5=>[2]
 |_=>[]
@[simp] def aaS:aP:=⟨[],false,[150],[],false⟩
@[simp] def Xu:Nat->List Nat
 |0=>[2,3]
 |1=>[2,3]
 |2=>[2,3,8]
 |3=>[2,3,8,9]
 |4=>[]
 |5=>[2,3,8,14]
 |6=>[]
 |7=>[2,3,8,24]
 |8=>[]
 |9=>[2,3,8,29]
 |10=>[]
 |11=>[2,3,8,34]
 |12=>[2,3,8,34]
 |13=>[]
 |14=>[2,3,8,40]
 |15=>[2,4]
 |16=>[]
 |17=>[2,3,8,65]
 |18=>[]
 |19=>[2,3,78]
 |20=>[]
 |_=>[]
@[simp] def ahY:Nat->List (List Nat)
 |16=>[[4,5,6,7,8,9,10,11,12,13,14,15],[4,5,6,7,8,9,10,11,12,13,14,15],[4,5,6,7,8,9,10,11,12,13,14,15],[4,5,6,7,8,9,10,11,12,13,14,15],[0,1,2,3,5,6,7,8,9,10,11,12,13,14,15],[0,1,2,3,4,9,12,13,14],[0,1,2,3,4,9,12,13,14],[0,1,2,3,4,9,12,13,14],[0,1,2,3,4,9,12,13,14],[0,1,2,3,4,5,6,7,8,12,13,14],[0,1,2,3,4,12,13,14],[0,1,2,3,4,12,13,14],[0,1,2,3,4,5,6,7,8,9,10,11],[0,1,2,3,4,5,6,7,8,9,10,11],[0,1,2,3,4,5,6,7,8,9,10,11],[0,1,2,3,4],[],[]]
 |18=>[[1,2,3,4,5,6,7,8],[0,5,6,7],[0,5,6,7],[0,5,6,7],[0,5,6,7],[0,1,2,3,4],[0,1,2,3,4],[0,1,2,3,4],[0],[],[],[]]
 |_=>[]
@[simp] def ahZ:Nat->List Gh
 |15=>[.fS 2 101]
 |16=>[.cls 2 101]
 |_=>[]
@[simp] def ah0:Nat->List (Nat×Nat)
 |16=>[(0,7),(2,0)]
 |18=>[(0,8)]
 |_=>[]
@[simp] def aaT:aP:=⟨[1,2,3,4,5,6,7,8],false,[101,200,250],[],false⟩
@[simp] def Xv:Nat->List Nat
 |0=>[]
 |_=>[]
@[simp] def ah1:Nat->List (List Nat)
 |0=>[[4,5,6],[4,5,6],[4,5,6],[4,5,6],[0,1,2,3,5,6],[0,1,2,3,4],[0,1,2,3,4],[],[],[]]
 |_=>[]
@[simp] def ah2:Nat->List (Nat×Nat)
 |0=>[(0,3)]
 |_=>[]
@[simp] def aaU:aP:=⟨[1,2,3,4,5,6,7,8],false,[],[],false⟩
@[simp] def Xw:Nat->List Nat
 |0=>[0,1,5]
 |1=>[0,1,5,7]
 |2=>[0,1,5,7,17]
 |3=>[0,1,5,7,17,18]
 |4=>[0,1,5,7,17,18]
 |5=>[6]
 |6=>[0,1,5,7,17,21]
 |7=>[0,1,5,7,17,21]
 |8=>[0,1,5,7,17,21]
 |9=>[0,1,5,7,17,21]
 |10=>[6]
 |11=>[0,1,5,7,17,30]
 |12=>[6]
 |13=>[0,1,5,7,17,42]
 |14=>[0,1,5,7,17,42]
 |15=>[0,1,5,7,17,42]
 |16=>[6]
 |17=>[0,1,5,7,17,49]
 |18=>[6]
 |19=>[0,1,5,7,17,53]
 |20=>[0,1,5,7,17,53]
 |21=>[6]
 |22=>[0,1,5,7,17,65]
 |23=>[0,5,8]
 |24=>[6]
 |25=>[1,7,80]
 |26=>[6]
 |27=>[6]
 |_=>[]
@[simp] def ah3:Nat->Bool
 |12=>true
 |24=>true
 |_=>false
@[simp] def aaV:aP:=⟨[1,2],false,[350],[],false⟩
@[simp] def Xx:Nat->List Nat
 |0=>[0]
 |1=>[2]
 |_=>[]
@[simp] def aaW:aP:=⟨[1,2],false,[],[],false⟩
@[simp] def Xy:Nat->List Nat
 |0=>[0,3]
 |1=>[0,3,7]
 |2=>[0,3,7,8]
 |3=>[4]
 |4=>[0,3,7,20]
 |5=>[4]
 |6=>[0,3,7,24]
 |7=>[0,3,7,24]
 |8=>[0,3,7,24]
 |9=>[4]
 |10=>[0,3,7,30]
 |11=>[4]
 |12=>[0,3,7,38]
 |13=>[4]
 |14=>[0,3,7,46]
 |15=>[4]
 |16=>[0,3,7,50]
 |17=>[4]
 |18=>[0,3,7,54]
 |19=>[0,3,5]
 |20=>[0,3,5,63]
 |21=>[0,3,5]
 |22=>[4]
 |23=>[0,82]
 |24=>[4]
 |25=>[4]
 |_=>[]
@[simp] def ah4:Nat->Bool
 |11=>true
 |13=>true
 |22=>true
 |24=>true
 |_=>false
@[simp] def aaX:aP:=⟨[2],false,[250],[],false⟩
@[simp] def Xz:Nat->List Nat
 |0=>[0,1,2]
 |1=>[0,1,2,13]
 |2=>[6]
 |3=>[0,1,2]
 |4=>[0,1,2,31]
 |5=>[0,1,2,41,42,43]
 |6=>[0,1,2,41,42,43,44]
 |7=>[0,1,2,8,41,42,43]
 |8=>[0,1,2,41,42,43,62]
 |9=>[6]
 |10=>[0,1,2,41,42,43]
 |11=>[]
 |12=>[6]
 |_=>[]
@[simp] def ah5:Nat->Bool
 |8=>true
 |_=>false
@[simp] def aaY:aP:=⟨[1,2,3],false,[],[2],false⟩
@[simp] def XA:Nat->List Nat
 |0=>[0]
 |1=>[7]
 |2=>[7,8]
 |3=>[2,3,4,5,6]
 |4=>[7,10]
 |5=>[7,10]
 |6=>[7,10]
 |7=>[7,10]
 |8=>[7,10]
 |9=>[2,3,4,5,6]
 |10=>[7,16]
 |11=>[7,16]
 |12=>[7,16]
 |13=>[7,16]
 |14=>[2,3,4,5,6]
 |15=>[7,21]
 |16=>[7,21]
 |17=>[7,21]
 |18=>[2,3,4,5,6]
 |19=>[7,25]
 |20=>[25]
 |21=>[2,3,4,5,6]
 |22=>[2,3,4,5,6]
 |_=>[]
@[simp] def aaZ:aP:=⟨[],false,[],[],false⟩
@[simp] def XB:Nat->List Nat
 |0=>[0,1]
 |1=>[0,1,7,8]
 |2=>[0,1,7,8,9]
 |3=>[0,1,5,7,8]
 |4=>[0,1,5,7,8,16]
 |5=>[4]
 |6=>[0,1,7,8]
 |7=>[4]
 |_=>[]
@[simp] def aa0:aP:=⟨[],false,[],[],false⟩
@[simp] def XF:Nat->List Nat
 |0=>[0,1]
 |1=>[0,8,9,10]
 |2=>[0,8,9,10,11]
 |3=>[0,6,8,9,10]
 |4=>[0,8,9,10]
 |5=>[0,8,9,10,19]
 |6=>[0,8,9,10,19,20]
 |7=>[0,7,8,9,10,19]
 |8=>[0,8,9,10,19]
 |9=>[0,8,9,10,19]
 |10=>[0,8,9,10]
 |11=>[4]
 |_=>[]
@[simp] def aa1:aP:=⟨[],false,[],[],false⟩
@[simp] def PI:Nat->List Nat
 |0=>[1,2]
 |1=>[1,2,4]
 |2=>[2,4,5]
 |3=>[2,4,5,11]
 |4=>[2,3]
 |5=>[2,3]
 |_=>[]
@[simp] def Tr:aP:=⟨[],false,[150,200],[],false⟩
@[simp] def PJ:Nat->List Nat
 |0=>[0,1]
 |1=>[0,1,5]
 |2=>[1,5,12,13,14]
 |3=>[1,5,12,13,14,15]
 |4=>[1,5,7,12,13,14]
 |5=>[1,5,7,8,12,13,14]
 |6=>[1,5,8,9,10,12,13,14]
 |7=>[1,5,8,9,12,13,14,26]
 |8=>[1,5,8,12,13,14]
 |9=>[1,5,12,13,14]
 |10=>[1,5,12,13,14]
 |11=>[4]
 |_=>[]
@[simp] def acT:aP:=⟨[],true,[300,350,500],[],false⟩
@[simp] def PK:Nat->List Nat
 |0=>[1,2]
 |1=>[1,2,3]
 |2=>[1,2,3,20,21,22]
 |3=>[1,2,3,20,21,22,23]
 |4=>[1,2,3,5,20,21,22]
 |5=>[1,2,3,20,21,22]
 |6=>[1,2,3,20,21,22]
 |7=>[1,2,3]
 |8=>[1,2,3,36]
 |9=>[2]
 |10=>[1,2,3,8]
 |11=>[1,2,3,44]
 |12=>[2]
 |13=>[1,2,3,9]
 |14=>[1,2,3,9,10]
 |15=>[1,2,9,10,46,47,48]
 |16=>[1,2,9,10,46,47,48,49]
 |17=>[1,2,9,10,12,46,47,48]
 |18=>[1,2,9,10,13,14,15,46,47,48]
 |19=>[1,2,9,10,13,14,46,47,48,59]
 |20=>[2]
 |21=>[1,2,9,10,14,46,47,48]
 |22=>[1,2,9,10,46,47,48]
 |23=>[1,2,9,10,46,47,48]
 |24=>[1,2,9,10,77]
 |25=>[2]
 |26=>[1,2,16,17,18]
 |27=>[1,2,16,17,98]
 |28=>[2]
 |29=>[2]
 |_=>[]
@[simp] def acU:Nat->Bool
 |27=>true
 |_=>false
@[simp] def Ts:aP:=⟨[],false,[150,200,250,350,550,700],[],false⟩
@[simp] def PL:Nat->List Nat
 |0=>[0]
 |1=>[0,3]
 |2=>[3,6,7,8]
 |3=>[3,6,7,8,9]
 |4=>[3,5,6,7,8]
 |5=>[3,6,7,8]
 |6=>[3,6,7,8]
 |7=>[2]
 |_=>[]
@[simp] def Tt:aP:=⟨[],false,[250,350],[],false⟩
@[simp] def PN:Nat->List Nat
 |0=>[0,1]
 |1=>[0,1,6,7]
 |2=>[0,1,6,7,8]
 |3=>[0,1,6,7,8,19]
 |4=>[0,1,6,7,8]
 |5=>[0,1,6,7,8,9,10]
 |6=>[0,1,6,7,8,10]
 |7=>[0,1,6,7,8]
 |8=>[4,5]
 |_=>[]
@[simp] def Tu:aP:=⟨[],false,[],[],false⟩
@[simp] def PO:Nat->List Nat
 |0=>[0,3,5]
 |1=>[0,3,5,6]
 |2=>[0,3,5,6,21]
 |3=>[0,3,5,6,21,22]
 |4=>[0,3,5,6,21,22]
 |5=>[4,5]
 |6=>[0,3,5,6,21,28]
 |7=>[0,3,5,6,21,28]
 |8=>[0,3,5,6,28]
 |9=>[0,3,5,6,7,8]
 |10=>[0,3,5,6,7,40]
 |11=>[4,5]
 |12=>[0,3,5,6,7,46]
 |13=>[3,5,6,7,49]
 |14=>[4,5]
 |15=>[3,5,9,10]
 |16=>[3,5,9,60]
 |17=>[4,5]
 |18=>[4,5]
 |19=>[0,3,5,6,7,77]
 |20=>[4,5]
 |21=>[0,3,5,7,81]
 |22=>[5,7,11]
 |23=>[5,7,11,90]
 |24=>[4,5]
 |25=>[4,5]
 |26=>[0,3,5,6,12,13]
 |27=>[0,3,5,6,12,13,106]
 |28=>[4,5]
 |29=>[0,3,5,6,12,13,14]
 |30=>[0,3,5,6,12,13,14,112]
 |31=>[3,5,6,12,13,14]
 |32=>[3,5,6,12,13,14,124]
 |33=>[4,5]
 |34=>[3,5,6,12,14,15]
 |35=>[3,5,6,12,14,15,16]
 |36=>[5,6,12,14,15,16,127]
 |37=>[5,6,12,14,15,16,127,128]
 |38=>[5,6,12,14,15,16,127,128]
 |39=>[5,6,12,14,15,16,127,128]
 |40=>[5,6,12,14,15,16,127,128]
 |41=>[5,6,12,14,15,16,127,128]
 |42=>[5,6,12,14,15,16,127,128]
 |43=>[5,6,12,14,15,16]
 |44=>[5,6,12,14,15,16,127,135]
 |45=>[5,6,12,14,15,16,127,135]
 |46=>[5,6,12,14,15,16]
 |47=>[5,6,12,14,15,16,127,139]
 |48=>[5,6,12,14,15,16,127,139]
 |49=>[5,6,12,14,15,16,127,139]
 |50=>[5,6,12,14,15,16,139]
 |51=>[5,6,12,14,15,16]
 |52=>[5,6,16,151]
 |53=>[4,5]
 |54=>[4,5]
 |_=>[]
@[simp] def acV:Nat->List (List Nat)
 |11=>[[3],[3],[3],[0,1,2],[]]
 |14=>[[1],[0],[]]
 |17=>[[3],[3],[3],[0,1,2],[]]
 |20=>[[1],[0],[]]
 |24=>[[1],[0],[]]
 |28=>[[1],[0],[]]
 |33=>[[1],[0],[]]
 |53=>[[1],[0],[]]
 |_=>[]
@[simp] def Tv:aP:=⟨[],false,[250,350,400,450,550,650,750],[],false⟩
@[simp] def PQ:Nat->List Nat
 |0=>[0,2,4,6]
 |1=>[2,4,6,7,8]
 |2=>[4,6,8,22]
 |3=>[6]
 |4=>[6]
 |_=>[]
@[simp] def Tw:aP:=⟨[],false,[300,400,500],[],false⟩
@[simp] def PT:Nat->List Nat
 |0=>[0,3,4]
 |1=>[0,3,4,5,6]
 |2=>[0,3,4,5,20]
 |3=>[4]
 |4=>[0,3,4,5,26]
 |5=>[4]
 |6=>[0,3,4,5,7]
 |7=>[0,3,4,5,7,34]
 |8=>[0,3,4,5,7]
 |9=>[0,3,4,5,7,8,9]
 |10=>[0,3,4,5,7,8,54]
 |11=>[4]
 |12=>[0,3,4,5,7,8,10]
 |13=>[0,3,4,5,7,8,10,60]
 |14=>[0,3,4,5,7,8,10]
 |15=>[0,3,4,5,7,8,10,73]
 |16=>[4]
 |17=>[0,3,4,5,7,11]
 |18=>[0,3,4,5,7,11,88]
 |19=>[4]
 |20=>[4]
 |_=>[]
@[simp] def acW:Nat->List (List Nat)
 |9=>[[2,3,4,5,6,11],[2,3,4,5,6,11],[0,1,4,11],[0,1,4,11],[0,1,2,3,11],[0,1,11],[0,1,11],[11],[11],[10,11],[9,11,12],[0,1,2,3,4,5,6,7,8,9,10],[10],[]]
 |15=>[[2,5,6,7,8,9],[2,5,6,7,8,9],[0,1,5,6,7,8,9],[5,6,7,8,9],[5,6,7,8,9],[0,1,2,3,4,7],[0,1,2,3,4,7],[0,1,2,3,4,5,6],[0,1,2,3,4],[0,1,2,3,4],[]]
 |17=>[[1,2,3,4,5,6,7,9],[0,3,6,7,9],[0,3,6,7,9],[0,1,2,6,7,9],[0,6,7,9],[0,6,7,9],[0,1,2,3,4,5,9],[0,1,2,3,4,5,9],[9],[0,1,2,3,4,5,6,7,8],[]]
 |_=>[]
@[simp] def Ty:aP:=⟨[],false,[250,300,350,500,650],[],false⟩
@[simp] def PU:Nat->List Nat
 |0=>[]
 |_=>[]
@[simp] def Tz:aP:=⟨[1,2,3,4,5,6,7,8],false,[],[],false⟩
@[simp] def PV:Nat->List Nat
 |0=>[0,3]
 |1=>[0,3,4,5]
 |2=>[0,3,4,5,22]
 |3=>[0,4]
 |4=>[]
 |5=>[0,3,4,5]
 |6=>[0,4,5]
 |7=>[]
 |_=>[]
@[simp] def acX:Nat->List (List Nat)
 |1=>[[4,5,6,12],[4,5,6,12],[4,5,6,12],[4,5,6,12],[0,1,2,3,12],[0,1,2,3,12],[0,1,2,3,12],[12],[12],[10,11,12],[9,11,12,13],[9,10,12,13,14],[0,1,2,3,4,5,6,7,8,9,10,11],[10,11],[11],[]]
 |_=>[]
@[simp] def TA:aP:=⟨[1,2,3,4,5,6,7,8],false,[250,350],[],false⟩
@[simp] def PW:Nat->List Nat
 |0=>[0,1,2,3,8]
 |1=>[0,1,2,3,8,12,13,14]
 |2=>[0,1,2,3,8,12,13,14,15]
 |3=>[0,1,2,3,8,9,10,12,13,14]
 |4=>[0,1,2,3,8,9,10,11,12,13,14]
 |5=>[0,1,2,3,8,9,10,11,12,13,14,21]
 |6=>[0,1,2,3,8,9,10,12,13,14]
 |7=>[0,1,2,3,8,9,10,11,12,13,14]
 |8=>[0,1,2,3,8,9,11,12,13,14]
 |9=>[0,1,2,3,8,11,12,13,14,34]
 |10=>[0,1,2,3,8,11,12,13,14]
 |11=>[0,1,2,3,8,11,12,13,14,41]
 |12=>[0,1,2,3,8,12,13,14]
 |13=>[0,1,2,3,8,12,13,14]
 |14=>[]
 |_=>[]
@[simp] def TB:aP:=⟨[1,2,3,4,5,6,7,8],false,[500],[],false⟩
@[simp] def PX:Nat->List Nat
 |0=>[]
 |_=>[]
@[simp] def acY:Nat->List (List Nat)
 |0=>[[1,2,3,4,5],[0,3],[0,3],[0,1,2],[0],[0],[]]
 |_=>[]
@[simp] def TC:aP:=⟨[1,2,3,4,5,6,7,8],false,[],[],false⟩
@[simp] def PY:Nat->List Nat
 |0=>[0,3]
 |1=>[0,3,20]
 |2=>[0,3,20,21]
 |3=>[0,3,20,21]
 |4=>[3]
 |5=>[4]
 |6=>[0,3,20,32]
 |7=>[0,5,6]
 |8=>[6]
 |9=>[4]
 |10=>[0,3,20,53]
 |11=>[0,3,8,9]
 |12=>[0,8,9]
 |13=>[0,8,9,11]
 |14=>[0,8,9,11,74]
 |15=>[0,8,9,11]
 |16=>[9]
 |17=>[4]
 |18=>[0,3,87]
 |19=>[0,12,13]
 |20=>[13]
 |21=>[4]
 |22=>[0,3,15]
 |23=>[0,3,15,111,112,113]
 |24=>[0,3,15,111,112,113,114]
 |25=>[0,3,17,111,112,113]
 |26=>[0,3,15,111,112,113]
 |27=>[0,3,15,111,112,113]
 |28=>[0,3,15,18]
 |29=>[0,3,18,124]
 |30=>[0,3,18]
 |31=>[3]
 |32=>[4]
 |_=>[]
@[simp] def acZ:Nat->List (List Nat)
 |7=>[[4,5,11],[4,5,11],[4,5,11],[4,5,11],[0,1,2,3,11],[0,1,2,3,11],[11],[11],[9,10,11],[8,10,11,12],[8,9,11,12,13],[0,1,2,3,4,5,6,7,8,9,10],[9,10],[10],[]]
 |11=>[[4,5,11],[4,5,11],[4,5,11],[4,5,11],[0,1,2,3,11],[0,1,2,3,11],[11],[11],[9,10,11],[8,10,11,12],[8,9,11,12,13],[0,1,2,3,4,5,6,7,8,9,10],[9,10],[10],[]]
 |19=>[[4,5,6,7,13],[4,5,6,7,13],[4,5,6,7,13],[4,5,6,7,13],[0,1,2,3,6,7,13],[0,1,2,3,6,7,13],[0,1,2,3,4,5,13],[0,1,2,3,4,5,13],[13],[13],[11,12,13],[10,12,13,14],[10,11,13,14,15],[0,1,2,3,4,5,6,7,8,9,10,11,12],[11,12],[12],[]]
 |_=>[]
@[simp] def TD:aP:=⟨[1,2,3,4,5,6,7,8],false,[250,400,550,750,950,1000],[],false⟩
@[simp] def PZ:Nat->List Nat
 |0=>[2,3]
 |1=>[2,3,4]
 |2=>[2,3,4]
 |3=>[2,3,4]
 |4=>[]
 |_=>[]
@[simp] def TE:aP:=⟨[1,2,3,4,5,6,7,8],false,[200,250,300],[],false⟩
@[simp] def P0:Nat->List Nat
 |0=>[2,3]
 |1=>[2,3,4]
 |2=>[2,3,4,5]
 |3=>[2,3,4,5,24,25,26]
 |4=>[2,3,4,5,24,25,26,27]
 |5=>[2,3,4,5,9,24,25,26]
 |6=>[2,3,4,5,24,25,26]
 |7=>[2,3,4,5,24,25,26]
 |8=>[2,3,4,5]
 |9=>[2,3,4,5]
 |10=>[2,3,4,5]
 |11=>[]
 |_=>[]
@[simp] def ac0:Nat->List (List Nat)
 |2=>[[4,5,11,12],[4,5,11,12],[4,5,11,12],[4,5,11,12],[0,1,2,3,11,12],[0,1,2,3,11,12],[11,12],[11,12],[9,10,11,12],[8,10,11,12,13],[8,9,11,12,13,14],[0,1,2,3,4,5,6,7,8,9,10,12],[0,1,2,3,4,5,6,7,8,9,10,11],[9,10],[10],[]]
 |_=>[]
@[simp] def TF:aP:=⟨[1,2,3,4,5,6,7,8],false,[200,250,300,350,400,550],[],false⟩
@[simp] def P1:Nat->List Nat
 |0=>[2,3]
 |1=>[]
 |_=>[]
@[simp] def TG:aP:=⟨[1,2,3,4,5,6,7,8],false,[200,250],[],false⟩
@[simp] def P2:Nat->List Nat
 |0=>[0,1]
 |1=>[4]
 |_=>[]
@[simp] def TH:aP:=⟨[1,2,3,4,5,6,7,8],false,[],[],false⟩
@[simp] def P3:Nat->List Nat
 |0=>[0,3]
 |1=>[0,3,4,5]
 |2=>[0,3,4,5,24,25,26]
 |3=>[0,3,4,5,24,25,26,27]
 |4=>[0,3,4,5,7,8,24,25,26]
 |5=>[0,3,4,5,7,9,24,25,26]
 |6=>[0,3,4,5,9,24,25,26]
 |7=>[0,3,4,5,24,25,26]
 |8=>[0,3,4,5,24,25,26]
 |9=>[]
 |_=>[]
@[simp] def ac1:Nat->List (List Nat)
 |1=>[[4,5,11],[4,5,11],[4,5,11],[4,5,11],[0,1,2,3,11],[0,1,2,3,11],[11],[11],[9,10,11],[8,10,11,12],[8,9,11,12,13],[0,1,2,3,4,5,6,7,8,9,10],[9,10],[10],[]]
 |5=>[[4,5,6,12],[4,5,6,12],[4,5,6,12],[4,5,6,12],[0,1,2,3,6,12],[0,1,2,3,6,12],[0,1,2,3,4,5,12],[12],[12],[10,11,12],[9,11,12,13],[9,10,12,13,14],[0,1,2,3,4,5,6,7,8,9,10,11],[10,11],[11],[]]
 |_=>[]
@[simp] def TI:aP:=⟨[1,2,3,4,5,6,7,8],false,[250,350,600],[],false⟩
@[simp] def P4:Nat->List Nat
 |0=>[0]
 |1=>[2]
 |_=>[]
@[simp] def TJ:aP:=⟨[1,2,3,4,5,6,7,8],false,[],[],false⟩
@[simp] def P5:Nat->List Nat
 |0=>[0,1,2]
 |1=>[6]
 |_=>[]
@[simp] def TL:aP:=⟨[1,2],false,[],[],false⟩
@[simp] def P6:Nat->List Nat
 |0=>[0,3]
 |1=>[4]
 |_=>[]
@[simp] def ac2:Nat->Bool
 |1=>true
 |_=>false
@[simp] def TM:aP:=⟨[1,2],false,[250],[],false⟩
@[simp] def P7:Nat->List Nat
 |0=>[1]
 |1=>[1,3]
 |2=>[2]
 |3=>[1,20]
 |4=>[2]
 |5=>[2]
 |_=>[]
@[simp] def ac3:Nat->Bool
 |2=>true
 |4=>true
 |_=>false
@[simp] def TN:aP:=⟨[],false,[150],[],false⟩
@[simp] def P8:Nat->List Nat
 |0=>[0,1]
 |1=>[0]
 |2=>[4]
 |_=>[]
@[simp] def TO:aP:=⟨[2],false,[],[],false⟩
@[simp] def P9:Nat->List Nat
 |0=>[0,1,2]
 |1=>[0,1,2,15]
 |2=>[6]
 |3=>[0,1,2,27,28,29]
 |4=>[0,1,2,27,28,29,30]
 |5=>[0,1,2,8,27,28,29]
 |6=>[0,1,2,27,28,29,37]
 |7=>[6]
 |8=>[0,1,2,27,28,29]
 |9=>[]
 |10=>[6]
 |_=>[]
@[simp] def ac4:Nat->List (List Nat)
 |3=>[[4,5,6,7,8,9,10,13],[4,5,6,7,8,9,10,13],[4,5,6,7,8,9,10,13],[4,5,6,7,8,9,10,13],[0,1,2,3,9,13],[0,1,2,3,9,13],[0,1,2,3,9,13],[0,1,2,3,9,13],[0,1,2,3,9,13],[0,1,2,3,4,5,6,7,8,13],[0,1,2,3,13],[13],[13],[0,1,2,3,4,5,6,7,8,9,10,11,12]]
 |9=>[[1,2,3,4,5,6,7,8,9,10,11,12],[0,5,6,7,8,9,10,11],[0,5,6,7,8,9,10,11],[0,5,6,7,8,9,10,11],[0,5,6,7,8,9,10,11],[0,1,2,3,4,10],[0,1,2,3,4,10],[0,1,2,3,4,10],[0,1,2,3,4,10],[0,1,2,3,4,10],[0,1,2,3,4,5,6,7,8,9],[0,1,2,3,4],[0],[],[],[]]
 |_=>[]
@[simp] def TP:aP:=⟨[2],false,[],[],false⟩
@[simp] def Qa:Nat->List Nat
 |0=>[0,3]
 |1=>[0,3,6]
 |2=>[0,3,6,7]
 |3=>[4]
 |4=>[0,3,6,12]
 |5=>[4]
 |6=>[0,19]
 |7=>[4]
 |8=>[4]
 |_=>[]
@[simp] def TQ:aP:=⟨[],false,[250],[],false⟩
@[simp] def Qb:Nat->List Nat
 |0=>[0,1,2]
 |1=>[0,1,2,11,12,13]
 |2=>[0,1,2,11,12,13,14]
 |3=>[0,1,2,10,11,12,13]
 |4=>[0,1,2,11,12,13,25]
 |5=>[6,7,8]
 |6=>[0,1,2,11,12,13]
 |7=>[0,1,2,27]
 |8=>[6,7,8]
 |9=>[0,1,2,40]
 |10=>[6,7,8]
 |11=>[0,1,44]
 |12=>[6,7,8]
 |13=>[0,1,57]
 |14=>[6,7,8]
 |15=>[0,1,75]
 |16=>[6,7,8]
 |17=>[6,7,8]
 |_=>[]
@[simp] def ac5:Nat->List (List Nat)
 |12=>[[1,2,3,4,5,6],[0,4,5,6],[0,4,5,6],[0,4,5,6],[0,1,2,3],[0,1,2,3],[0,1,2,3],[],[9,10],[8,10],[8,9],[],[],[]]
 |14=>[[1,2,3,4,5,6],[0,4,5,6],[0,4,5,6],[0,4,5,6],[0,1,2,3],[0,1,2,3],[0,1,2,3],[],[9,10],[8,10],[8,9],[],[],[]]
 |16=>[[1,2,3,4,5,6],[0,4,5,6],[0,4,5,6],[0,4,5,6],[0,1,2,3],[0,1,2,3],[0,1,2,3],[],[9,10],[8,10],[8,9],[],[],[]]
 |_=>[]
@[simp] def TR:aP:=⟨[],false,[],[],false⟩
@[simp] def Qc:Nat->List Nat
 |0=>[]
 |1=>[0]
 |_=>[]
@[simp] def ac6:aP:=⟨[],false,[],[],false⟩
@[simp] def Qd:Nat->List Nat
 |0=>[0,1]
 |1=>[0,1,7,8]
 |2=>[0,1,7,8,9]
 |3=>[0,1,5,7,8]
 |4=>[0,1,5,7,8,16]
 |5=>[4]
 |6=>[0,1,7,8]
 |7=>[4]
 |_=>[]
@[simp] def TS:aP:=⟨[],false,[],[],false⟩
@[simp] def Qe:Nat->List Nat
 |0=>[1,2]
 |1=>[3]
 |_=>[]
@[simp] def TU:aP:=⟨[],false,[200],[],false⟩
@[simp] def Qf:Nat->List Nat
 |0=>[0]
 |1=>[0,3]
 |2=>[0,3,4]
 |3=>[0,3,4,5]
 |4=>[0,3,4,5,6]
 |5=>[0,3,4,5,6,16]
 |6=>[0,3,4,5,6]
 |7=>[0,3,4,5,6,7]
 |8=>[0,3,4,5,6,7]
 |9=>[0,3,4,5,6,8]
 |10=>[0,3,5,6,8]
 |11=>[0,3,4,5,6]
 |12=>[0,3,37]
 |13=>[2]
 |14=>[0,9]
 |15=>[0,9,10]
 |16=>[0,9,10]
 |17=>[0,9,10,12]
 |18=>[0,9,10,12,53]
 |19=>[0,9,10,12]
 |20=>[0,9,10,11,12]
 |21=>[0,9,10,11,12,60]
 |22=>[0,9,10,11,12,66]
 |23=>[0,9,10,11,12]
 |24=>[0,9,10,12]
 |25=>[0,9,10,12]
 |26=>[0,9,10,12]
 |27=>[0,9,10,12,91]
 |28=>[0,9,10,12]
 |29=>[0,9,10,11,12]
 |30=>[0,9,10,11,98]
 |31=>[9]
 |32=>[2]
 |_=>[]
@[simp] def ac7:Nat->Bool
 |18=>true
 |27=>true
 |_=>false
@[simp] def ac8:aP:=⟨[],false,[2150],[],false⟩
@[simp] def Qg:Nat->List Nat
 |0=>[0,1]
 |1=>[4,5]
 |_=>[]
@[simp] def ac9:aP:=⟨[],false,[],[],false⟩
@[simp] def Qi:Nat->List Nat
 |0=>[1]
 |1=>[1,5]
 |2=>[2,3,4]
 |3=>[1,11]
 |4=>[2,3,4]
 |5=>[1,17]
 |6=>[2,3,4]
 |7=>[2,3,4]
 |_=>[]
@[simp] def ada:Nat->Bool
 |5=>true
 |_=>false
@[simp] def TV:aP:=⟨[],false,[150],[],false⟩
@[simp] def Qj:Nat->List Nat
 |0=>[0]
 |1=>[3]
 |2=>[2]
 |3=>[2]
 |_=>[]
@[simp] def TW:aP:=⟨[],false,[],[],false⟩
@[simp] def Qk:Nat->List Nat
 |0=>[0,1,2,6]
 |1=>[0,2,6,7]
 |2=>[6]
 |3=>[0,2,6,12]
 |4=>[6]
 |5=>[6]
 |_=>[]
@[simp] def TX:aP:=⟨[],false,[400],[],false⟩
@[simp] def Ql:Nat->List Nat
 |0=>[0,1,4]
 |1=>[1,4,6]
 |2=>[1,4,6,7]
 |3=>[1,4,6,7,13]
 |4=>[1,4,6,7]
 |5=>[1,4,6,7,26]
 |6=>[4,5]
 |7=>[4,5]
 |_=>[]
@[simp] def adb:Nat->Bool
 |5=>true
 |_=>false
@[simp] def TY:aP:=⟨[],false,[300],[],false⟩
@[simp] def Qm:Nat->List Nat
 |0=>[0,3,4]
 |1=>[3,4,5,6]
 |2=>[3,4,6,19]
 |3=>[4]
 |4=>[4]
 |_=>[]
@[simp] def TZ:aP:=⟨[],false,[250,300,400],[],false⟩
@[simp] def Qn:Nat->List Nat
 |0=>[1,2,5]
 |1=>[1,2,5,7]
 |2=>[1,5,7,11,12,13]
 |3=>[1,5,7,11,12,13,14]
 |4=>[1,5,7,9,11,12,13]
 |5=>[1,5,7,9,11,12,13,20]
 |6=>[4,5,6]
 |7=>[1,5,7,11,12,13]
 |8=>[1,5,7,11,12,13]
 |9=>[4,5,6]
 |_=>[]
@[simp] def ade:Nat->List (List Nat)
 |6=>[[1],[0,2],[1],[],[]]
 |_=>[]
@[simp] def T0:aP:=⟨[],false,[200,350,550],[],false⟩
@[simp] def Qo:Nat->List Nat
 |0=>[]
 |_=>[]
@[simp] def T1:aP:=⟨[1,2,3,4,5,6,7,8],false,[],[],false⟩
@[simp] def Qp:Nat->List Nat
 |0=>[0,1]
 |1=>[4]
 |_=>[]
@[simp] def T4:aP:=⟨[1,2,3,4,5,6,7,8],false,[],[],false⟩
@[simp] def Qq:Nat->List Nat
 |0=>[0,1,2,6]
 |1=>[0,1,6,8]
 |2=>[0,1,6]
 |3=>[]
 |_=>[]
@[simp] def T6:aP:=⟨[1,2,3,4,5,6,7,8],false,[],[],false⟩
@[simp] def Qr:Nat->List Nat
 |0=>[1,3,5,7]
 |1=>[5,7,9,10,11]
 |2=>[5,7,9,10,31]
 |3=>[6,7,8]
 |4=>[5,7,9,12]
 |5=>[7,9,12,13]
 |6=>[7,9,12,13,40]
 |7=>[6,7,8]
 |8=>[6,7,8]
 |_=>[]
@[simp] def adf:Nat->List (List Nat)
 |8=>[[1,3,4,5,6],[0,3,4,5,6],[3,4,5,6],[0,1,2,4,7],[0,1,2,3,7],[0,1,2,7],[0,1,2,7],[3,4,5,6],[],[]]
 |_=>[]
@[simp] def T7:aP:=⟨[],false,[250,350,450,600],[],false⟩
@[simp] def Qs:Nat->List Nat
 |0=>[0,1]
 |1=>[0,1,5]
 |2=>[5]
 |3=>[4]
 |_=>[]
@[simp] def T8:aP:=⟨[1,2,3,4,5,6,7,8],false,[],[],false⟩
@[simp] def Qt:Nat->List Nat
 |0=>[0,1,2,3]
 |1=>[1,3,5]
 |2=>[1,3,5,6]
 |3=>[1,3,5,6,19]
 |4=>[1,3,5,6]
 |5=>[1,3,5,6]
 |6=>[1,3,5,6]
 |_=>[]
@[simp] def adg:Nat->List (List Nat)
 |5=>[[1,2,3,4,5,6,7,8,9,10,11],[0,2,3,4,5,6,7,8,9,10],[0,1,3,6,7,8,9,10],[0,1,2,6,7,8,9,10],[0,1,6,7,8,9,10],[0,1,6,7,8,9,10],[0,1,2,3,4,5,7,8],[0,1,2,3,4,5,6],[0,1,2,3,4,5,6],[0,1,2,3,4,5],[0,1,2,3,4,5],[0],[]]
 |_=>[]
@[simp] def T9:aP:=⟨[1,2,3,4,5,6,7,8],false,[],[],false⟩
@[simp] def Qu:Nat->List Nat
 |0=>[0,1]
 |1=>[0]
 |2=>[0,4]
 |3=>[0,4,5]
 |4=>[0,5]
 |5=>[]
 |_=>[]
@[simp] def adh:Nat->List Gh
 |2=>[.fS 4 101,.fS 6 101]
 |4=>[.shut 4,.shut 6]
 |_=>[]
@[simp] def Ua:aP:=⟨[1,2,3,4,5,6,7,8],false,[101,650],[],false⟩
@[simp] def Qv:Nat->List Nat
 |0=>[0,1,2,3,4]
 |1=>[0,1,2,3,4]
 |2=>[0,1,2,3,4]
 |3=>[0,1,2,3,4,5]
 |4=>[0,1,2,4,5]
 |5=>[0,1,2,4,5]
 |6=>[0,1,4,5]
 |7=>[0,1,4,5]
 |8=>[0,4,5]
 |9=>[0,5]
 |10=>[]
 |_=>[]
@[simp] def adi:Nat->List (List Nat)
 |4=>[[1,2,3,4],[0],[0],[0],[0],[]]
 |_=>[]
@[simp] def Ub:aP:=⟨[1,2,3,4,5,6,7,8],false,[],[],false⟩
@[simp] def Qw:Nat->List Nat
 |0=>[0,1,2]
 |1=>[0,1,2,8]
 |2=>[0,1,2]
 |3=>[0,1,2]
 |4=>[0,2]
 |5=>[]
 |6=>[0,1,2]
 |7=>[0,1,2]
 |8=>[0,1,2,3]
 |9=>[0,2,3]
 |10=>[0,3]
 |11=>[]
 |_=>[]
@[simp] def adj:Nat->List (List Nat)
 |2=>[[1,2,3,4],[0],[0],[0],[0],[]]
 |9=>[[1,2,3,4],[0],[0],[0],[0],[]]
 |_=>[]
@[simp] def Uc:aP:=⟨[1,2,3,4,5,6,7,8],false,[],[],false⟩
@[simp] def Qx:Nat->List Nat
 |0=>[0,1,2]
 |1=>[0,1,2,11]
 |2=>[9,10]
 |3=>[9,24]
 |4=>[6,7,8]
 |5=>[6,7,8]
 |6=>[1,26]
 |7=>[6,7,8]
 |8=>[6,7,8]
 |_=>[]
@[simp] def Ud:aP:=⟨[],false,[],[],false⟩
@[simp] def Qy:Nat->List Nat
 |0=>[0,1,2]
 |1=>[1,2,9]
 |2=>[1,2,9,10]
 |3=>[6,7,8]
 |4=>[1,2,9,16]
 |5=>[1,2,9,16]
 |6=>[6,7,8]
 |7=>[1,2,9,23]
 |8=>[6,7,8]
 |9=>[1,2,28]
 |10=>[6,7,8]
 |11=>[6,7,8]
 |_=>[]
@[simp] def Ue:aP:=⟨[],false,[],[],false⟩
@[simp] def Qz:Nat->List Nat
 |0=>[0,1,2]
 |1=>[0,1,2,9]
 |2=>[0,1,2,9,10]
 |3=>[0,1,2,9,10,11]
 |4=>[1,2,9,10,11,12]
 |5=>[1,2,9,10,11,12,13]
 |6=>[9,10,11]
 |7=>[1,2,9,10,11,12,21]
 |8=>[9,10,11]
 |9=>[1,2,9,10,11,12,29]
 |10=>[9,10,11]
 |11=>[1,2,9,10,11,12,37]
 |12=>[9,10,11]
 |13=>[1,2,9,10,11,45]
 |14=>[9,10,11]
 |15=>[9,10,11,53]
 |16=>[6,7,8]
 |17=>[9,56]
 |18=>[6,7,8]
 |19=>[6,7,8]
 |_=>[]
@[simp] def Uf:aP:=⟨[],false,[],[],false⟩
@[simp] def QA:Nat->List Nat
 |0=>[0,1,2]
 |1=>[0,1,2,9]
 |2=>[1,2,9,10]
 |3=>[1,2,9,10,11]
 |4=>[9]
 |5=>[1,2,9,10,16]
 |6=>[9]
 |7=>[1,2,9,10,21]
 |8=>[9]
 |9=>[1,2,9,10,26]
 |10=>[9]
 |11=>[1,2,9,10,31]
 |12=>[9]
 |13=>[1,2,9,36]
 |14=>[9]
 |15=>[6,7,8]
 |_=>[]
@[simp] def Ug:aP:=⟨[],false,[],[],false⟩
@[simp] def QB:Nat->List Nat
 |0=>[0,1]
 |1=>[0,1,5]
 |2=>[0,1,5,6]
 |3=>[0,1,5,6,14]
 |4=>[0,1,5,6,14,15,16]
 |5=>[0,1,5,6,7,8,14]
 |6=>[0,1,5,6,7,14,21]
 |7=>[0,1,5,6,7,14,23]
 |8=>[0,1,5,6,14]
 |9=>[0,1,5,6,14]
 |10=>[0,1,5,6,7,14,33]
 |11=>[0,1,5,6,14]
 |12=>[0,5,6,36]
 |13=>[0,5]
 |14=>[0,5,9]
 |15=>[0,9,47,48,49]
 |16=>[0,9,47,48,49,50]
 |17=>[0,9,10,11,47,48,49]
 |18=>[0,9,47,48,49]
 |19=>[0,9,47,48,49]
 |20=>[4]
 |_=>[]
@[simp] def adk:aP:=⟨[],false,[650,700,2400],[],false⟩
@[simp] def QC:Nat->List Nat
 |0=>[0]
 |1=>[0,5]
 |2=>[6]
 |3=>[6,7]
 |4=>[6,7]
 |5=>[6,7]
 |6=>[6,7]
 |7=>[6,7]
 |8=>[6,7]
 |9=>[6,7]
 |10=>[7]
 |11=>[2]
 |12=>[2]
 |13=>[2]
 |_=>[]
@[simp] def adl:aP:=⟨[],false,[],[],false⟩
@[simp] def QD:Nat->List Nat
 |0=>[0,1]
 |1=>[0,1,9]
 |2=>[4,5]
 |3=>[4,5]
 |_=>[]
@[simp] def adm:aP:=⟨[],false,[],[],false⟩
@[simp] def QE:Nat->List Nat
 |0=>[0,1]
 |1=>[0,1,7,8]
 |2=>[0,1,7,8,9]
 |3=>[0,1,5,7,8]
 |4=>[0,1,5,7,8,16]
 |5=>[4]
 |6=>[0,1,7,8]
 |7=>[4]
 |_=>[]
@[simp] def Uh:aP:=⟨[],false,[],[],false⟩
@[simp] def QF:Nat->List Nat
 |0=>[1,2]
 |1=>[3]
 |_=>[]
@[simp] def Ui:aP:=⟨[],false,[200],[],false⟩
@[simp] def QG:Nat->List Nat
 |0=>[0,1]
 |1=>[0,1,6]
 |2=>[6,21]
 |3=>[4,5]
 |4=>[4,5]
 |_=>[]
@[simp] def Uj:aP:=⟨[],false,[],[],false⟩
@[simp] def QH:Nat->List Nat
 |0=>[0,1]
 |1=>[0,1,6]
 |2=>[6,21]
 |3=>[4,5]
 |4=>[4,5]
 |_=>[]
@[simp] def Uk:aP:=⟨[],false,[],[],false⟩
@[simp] def QI:Nat->List Nat
 |0=>[0,1]
 |1=>[0,1,6,7]
 |2=>[0,1,7,17]
 |3=>[4,5]
 |4=>[4,5]
 |_=>[]
@[simp] def Ul:aP:=⟨[],false,[],[],false⟩
@[simp] def QJ:Nat->List Nat
 |0=>[0,1]
 |1=>[0,1,6]
 |2=>[4,5]
 |3=>[0,1,9]
 |4=>[4,5]
 |5=>[4,5]
 |_=>[]
@[simp] def Um:aP:=⟨[],false,[],[],false⟩
@[simp] def QK:Nat->List Nat
 |0=>[0,1]
 |1=>[0,1,6]
 |2=>[0,1,6,7]
 |3=>[4,5]
 |4=>[0,1,9]
 |5=>[4,5]
 |6=>[4,5]
 |_=>[]
@[simp] def Un:aP:=⟨[],false,[],[],false⟩
@[simp] def QL:Nat->List Nat
 |0=>[0,1]
 |1=>[0,1,5]
 |2=>[0,1,5,6]
 |3=>[0,1,5,6,32]
 |4=>[4]
 |5=>[1,7]
 |6=>[1,7,54]
 |7=>[4]
 |8=>[4]
 |_=>[]
@[simp] def adn:Nat->Bool
 |3=>true
 |6=>true
 |_=>false
@[simp] def ado:aP:=⟨[],false,[],[],false⟩
@[simp] def QM:Nat->List Nat
 |0=>[0,1]
 |1=>[4]
 |_=>[]
@[simp] def adp:Nat->Bool
 |1=>true
 |_=>false
@[simp] def adq:aP:=⟨[],false,[],[],false⟩
@[simp] def QN:Nat->List Nat
 |0=>[0,1]
 |1=>[0,1,6]
 |2=>[0,1,6,7]
 |3=>[0,1,6,7,8]
 |4=>[0,1,6,7,8,9]
 |5=>[0,1,6,7,8,9,10]
 |6=>[0,1,6,7,9,11]
 |7=>[0,1,6,7,9,11,12]
 |8=>[0,1,6,7,9,12,13]
 |9=>[0,1,7,9,12,13]
 |10=>[0,1,4]
 |11=>[4,5]
 |_=>[]
@[simp] def Uo:aP:=⟨[],false,[],[],false⟩
@[simp] def QO:Nat->List Nat
 |0=>[0]
 |1=>[0,4]
 |2=>[2]
 |3=>[2]
 |_=>[]
@[simp] def Up:aP:=⟨[],false,[],[],false⟩
@[simp] def QP:Nat->List Nat
 |0=>[0,1]
 |1=>[0,1,6]
 |2=>[4,5]
 |3=>[0,15]
 |4=>[4,5]
 |5=>[4,5]
 |_=>[]
@[simp] def Uq:aP:=⟨[],false,[],[],false⟩
@[simp] def QQ:Nat->List Nat
 |0=>[0,1]
 |1=>[0,1,17]
 |2=>[0,1,19,20]
 |3=>[0,1,19,20,21]
 |4=>[0,1,5,19,20]
 |5=>[0,1,6,19,20]
 |6=>[0,1,6,19,20,31]
 |7=>[4]
 |8=>[0,1,6,19,20,37]
 |9=>[4]
 |10=>[0,1,19,20]
 |11=>[4]
 |12=>[0,1,7]
 |13=>[0,1,7,8]
 |14=>[0,1,7,8,62]
 |15=>[0,1,7,8,9]
 |16=>[0,1,7,8,9,10]
 |17=>[0,1,7,8,9,10,85]
 |18=>[4]
 |19=>[0,1,7,8,9,110]
 |20=>[0,1,7,8]
 |21=>[0,1,7,8]
 |22=>[4]
 |_=>[]
@[simp] def adr:Nat->List (List Nat)
 |9=>[[],[],[],[],[],[],[7,8,9,10,12,13,14,15],[6,12,13,14,15],[6,12,13,14,15],[6,12,13,14,15],[6,12,13,14,15],[12,13,14,15],[6,7,8,9,10,11],[6,7,8,9,10,11],[6,7,8,9,10,11],[6,7,8,9,10,11],[],[],[],[]]
 |18=>[[],[],[],[],[],[],[7,8,9,10,12,13,14,15],[6,12,13,14,15],[6,12,13,14,15],[6,12,13,14,15],[6,12,13,14,15],[12,13,14,15],[6,7,8,9,10,11],[6,7,8,9,10,11],[6,7,8,9,10,11],[6,7,8,9,10,11],[],[],[],[]]
 |_=>[]
@[simp] def ads:aP:=⟨[],false,[],[],false⟩
@[simp] def QR:Nat->List Nat
 |0=>[0,1]
 |1=>[0,1,13]
 |2=>[0,1,15,16]
 |3=>[0,1,15,16,17]
 |4=>[0,1,5,15,16]
 |5=>[0,1,6,15,16]
 |6=>[0,1,6,15,16,27]
 |7=>[4]
 |8=>[0,1,6,15,16,33]
 |9=>[4]
 |10=>[0,1,15,16]
 |11=>[4]
 |12=>[0,1,7]
 |13=>[0,1,7,8]
 |14=>[0,1,7,8,58]
 |15=>[0,1,7,8,9]
 |16=>[0,1,7,8,9,10]
 |17=>[0,1,7,8,9,10,78]
 |18=>[4]
 |19=>[0,1,7,8,9,95]
 |20=>[0,1,7,8]
 |21=>[0,1,7,8]
 |22=>[4]
 |_=>[]
@[simp] def adt:Nat->List (List Nat)
 |9=>[[],[],[],[],[],[],[7,8,9,10,12,13,14,15],[6,12,13,14,15],[6,12,13,14,15],[6,12,13,14,15],[6,12,13,14,15],[12,13,14,15],[6,7,8,9,10,11],[6,7,8,9,10,11],[6,7,8,9,10,11],[6,7,8,9,10,11],[],[],[],[]]
 |_=>[]
@[simp] def adu:aP:=⟨[],false,[600],[],false⟩
def od5:Nat->List (List Nat)
 |9=>[[],[],[],[4,5,7,8,9],[3,5,7,8,9],[3,4,7,8,9],[7,8,9],[3,4,5,6,8,9],[3,4,5,6,7,9],[3,4,5,6,7,8],[],[],[],[]]
 |_=>[]
def od6:Nat->List (List Nat)
 |6=>[[],[],[],[4,5,7,8,9],[3,5,7,8,9],[3,4,7,8,9],[7,8,9],[3,4,5,6,8,9],[3,4,5,6,7,9],[3,4,5,6,7,8],[],[],[],[]]
 |_=>[]
def atp:Nat->List (List Nat)
 |5=>[[1,2,4,5,6,7,8,10,11],[0,2,4,5,6,7,8,10,11],[0,1,4,5,6,7,8,10,11],[4,5,6,7,8,10,11],[0,1,2,3,5,6,7,8,10,11],[0,1,2,3,4,6,7,8,10,11],[0,1,2,3,4,5,7,10,11],[0,1,2,3,4,5,6,10,11],[0,1,2,3,4,5,10,11],[10,11],[0,1,2,3,4,5,6,7,8,9,11],[0,1,2,3,4,5,6,7,8,9,10],[],[]]
 |_=>[]
def atq:Nat->List (List Nat)
 |5=>[[1,2,3],[0,2,3,4],[0,1,3],[0,1,2],[1],[]]
 |6=>[[2,4,5,6,7],[2,4,5,6,7],[0,1,4,5,6,7],[4,5,6,7],[0,1,2,3,6,8,9],[0,1,2,3,6,8,9],[0,1,2,3,4,5,8,9],[0,1,2,3,8,9],[4,5,6,7],[4,5,6,7],[],[]]
 |7=>[[1,2,4,5,6,8,9],[0,2,4,5,6,8,9],[0,1,4,5,6,8,9],[4,5,6,8,9],[0,1,2,3,5,6,8,9],[0,1,2,3,4,6,8,9],[0,1,2,3,4,5,8,9],[8,9],[0,1,2,3,4,5,6,7,9],[0,1,2,3,4,5,6,7,8],[],[]]
 |10=>[[1,2,3,4,5,6],[0,2,3,4,5],[0,1,4,5],[0,1,4,5],[0,1,2,3],[0,1,2,3],[0],[],[]]
 |_=>[]
def atr:Nat->List (List Nat)
 |5=>[[1,2,4,6,7],[0,2,4,6,7],[0,1,4,6,7],[4,6,7],[0,1,2,3,6,7],[6,7],[0,1,2,3,4,5,7],[0,1,2,3,4,5,6],[],[],[]]
 |_=>[]
def ats:Nat->List (List Nat)
 |9=>[[1,2,4,5,6],[0,2,4,5,6],[0,1,4,5,6],[4,5,6],[0,1,2,3,5,6],[0,1,2,3,4,6],[0,1,2,3,4,5],[],[],[]]
 |_=>[]
def att:Nat->List (List Nat)
 |3=>[[1,2,3,4,5,6,7,8,9],[0,3,4,5,6,7,9],[0,3,4,5,6,7,9],[0,1,2,5,6,9],[0,1,2,5,6,9],[0,1,2,3,4,9],[0,1,2,3,4,9],[0,1,2,9],[0,9],[0,1,2,3,4,5,6,7,8],[],[],[]]
 |5=>[[2,3,4,5,8],[2,3,4,5,8],[0,1,8],[0,1,8],[0,1,8],[0,1,8],[8],[8],[0,1,2,3,4,5,6,7],[]]
 |10=>[[4,5,8,9,10,11,12,13,14,15],[4,5,8,9,10,11,12,13,14,15],[4,5,8,9,10,11,12,13,14,15],[4,5,8,9,10,11,12,13,14,15],[0,1,2,3,8,9,10,11,12,13,14,15],[0,1,2,3,8,9,10,11,12,13,14,15],[8,9,10,11,12,13,14,15],[8,9,10,11,12,13,14,15],[0,1,2,3,4,5,6,7,12,13,14,15],[0,1,2,3,4,5,6,7,12,13,14,15],[0,1,2,3,4,5,6,7,12,13,14,15],[0,1,2,3,4,5,6,7,12,13,14,15],[0,1,2,3,4,5,6,7,8,9,10,11],[0,1,2,3,4,5,6,7,8,9,10,11],[0,1,2,3,4,5,6,7,8,9,10,11],[0,1,2,3,4,5,6,7,8,9,10,11],[],[]]
 |_=>[]
def atu:Nat->List (List Nat)
 |1=>[[1,2,3,4,5,6],[0,3,4,6],[0,3,4,6],[0,1,2,4,6],[0,1,2,3,6],[0,6],[0,1,2,3,4,5],[],[],[]]
 |5=>[[1,2,3,4,5,6,7,8,9,10,11,12,13],[0,5,6,7,8,9,10,11,12],[0,5,6,7,8,9,10,11,12],[0,5,6,7,8,9,10,11,12],[0,5,6,7,8,9,10,11,12],[0,1,2,3,4,7],[0,1,2,3,4,7],[0,1,2,3,4,5,6],[0,1,2,3,4],[0,1,2,3,4],[0,1,2,3,4],[0,1,2,3,4],[0,1,2,3,4],[0],[],[],[]]
 |7=>[[4,5,6,7,8,9,10,11],[4,5,6,7,8,9,10,11],[4,5,6,7,8,9,10,11],[4,5,6,7,8,9,10,11],[0,1,2,3,8,9,10,11],[0,1,2,3,8,9,10,11],[0,1,2,3,8,9,10,11],[0,1,2,3,8,9,10,11],[0,1,2,3,4,5,6,7],[0,1,2,3,4,5,6,7],[0,1,2,3,4,5,6,7],[0,1,2,3,4,5,6,7],[],[]]
 |_=>[]
def atv:Nat->List (List Nat)
 |2=>[[1,2,3,4,5,8],[0,3,4,5,8],[0,3,4,5,8],[0,1,2,5,8],[0,1,2,5,8],[0,1,2,3,4,8],[8],[8],[0,1,2,3,4,5,6,7],[]]
 |8=>[[1,2,3,4,5,6,7,8,9],[0,5,6,7,8],[0,5,6,7,8],[0,5,6,7,8],[0,5,6,7,8],[0,1,2,3,4],[0,1,2,3,4],[0,1,2,3,4],[0,1,2,3,4],[0],[],[],[]]
 |12=>[[4,5,6,7],[4,5,6,7],[4,5,6,7],[4,5,6,7],[0,1,2,3],[0,1,2,3],[0,1,2,3],[0,1,2,3],[],[]]
 |_=>[]
def atw:Nat->List (List Nat)
 |3=>[[1,2,3],[0,2,3,4],[0,1,3,4,5],[0,1,2,4,5,6],[1,2,3],[2,3],[3],[]]
 |10=>[[1,2],[0,2,3],[0,1,3,4,5],[1,2],[2],[2],[]]
 |_=>[]
def atx:Nat->List (List Nat)
 |6=>[[1,4,5,6,7],[0,4,5,6,7],[4,5,6,7],[4,5,6,7],[0,1,2,3,5],[0,1,2,3,4],[0,1,2,3],[0,1,2,3],[]]
 |_=>[]
def aty:Nat->List (List Nat)
 |6=>[[1,2,3,4,5,6,7,8],[0,5,6],[0,5,6],[0,5,6],[0,5,6],[0,1,2,3,4],[0,1,2,3,4],[0],[0],[]]
 |8=>[[1,2,3,4,5,6,7,8,9,10],[0,5,6],[0,5,6],[0,5,6],[0,5,6],[0,1,2,3,4],[0,1,2,3,4],[0],[0],[0],[0],[]]
 |11=>[[1,2,3],[0,2,3],[0,1],[0,1],[],[],[7],[6,8],[7],[]]
 |18=>[[4,5,6],[4,5,6],[4,5,6],[4,5,6],[0,1,2,3,6],[0,1,2,3,6],[0,1,2,3,4,5],[],[]]
 |21=>[[1,2,3],[0,2,3],[0,1],[0,1],[],[],[7],[6,8],[7],[]]
 |_=>[]
def atz:Nat->List (List Nat)
 |15=>[[4,5,7,8,9,10,11,12,13,14,15,16,17,18,19,20],[4,5,7,8,9,10,11,12,13,14,15,16,17,18,19,20],[4,5,7,8,9,10,11,12,13,14,15,16,17,18,19,20],[4,5,7,8,9,10,11,12,13,14,15,16,17,18,19,20],[0,1,2,3,7,8,9,10,11,12,13,14,15,16,17,18,19,20],[0,1,2,3,7,8,9,10,11,12,13,14,15,16,17,18,19,20],[7,8,9,10,11,12,13,14,15,16,17,18,19,20],[0,1,2,3,4,5,6,9,10,11,12,13,14,15,16,17,18,19],[0,1,2,3,4,5,6,9,10,11,12,13,14,15,16,17,18,19],[0,1,2,3,4,5,6,7,8,13,14,15,16,17,18],[0,1,2,3,4,5,6,7,8,13,14,15,16,17,18],[0,1,2,3,4,5,6,7,8,13,14,15,16,17,18],[0,1,2,3,4,5,6,7,8,13,14,15,16,17,18],[0,1,2,3,4,5,6,7,8,9,10,11,12,15,16,17,18],[0,1,2,3,4,5,6,7,8,9,10,11,12,15,16,17,18],[0,1,2,3,4,5,6,7,8,9,10,11,12,13,14,17],[0,1,2,3,4,5,6,7,8,9,10,11,12,13,14,17],[0,1,2,3,4,5,6,7,8,9,10,11,12,13,14,15,16],[0,1,2,3,4,5,6,7,8,9,10,11,12,13,14],[0,1,2,3,4,5,6,7,8],[0,1,2,3,4,5,6],[]]
 |19=>[[4,5],[4,5],[4,5],[4,5],[0,1,2,3],[0,1,2,3],[],[],[]]
 |_=>[]
def atA:Nat->List (List Nat)
 |5=>[[4,5,6,7,8,9],[4,5,6,7,8,9],[4,5,6,7,8,9],[4,5,6,7,8,9],[0,1,2,3,6,7,8,9],[0,1,2,3,6,7,8,9],[0,1,2,3,4,5],[0,1,2,3,4,5],[0,1,2,3,4,5],[0,1,2,3,4,5],[],[]]
 |_=>[]
def atB:Nat->List (List Nat)
 |3=>[[1,2],[0,2,3],[0,1,3,4],[1,2],[2],[]]
 |_=>[]
def atC:Nat->List (List Nat)
 |5=>[[1,2,3,4,5,6,7,8],[0,3,4,5,6,7],[0,3,4,5,6,7],[0,1,2,4,5,6,7],[0,1,2,3,5],[0,1,2,3,4],[0,1,2,3],[0,1,2,3],[0],[],[],[]]
 |_=>[]
def atD:Nat->List (List Nat)
 |12=>[[2,3,4,5,6,7,8,9,10,11],[2,3,4,5,6,7,8,9,10,11],[0,1,3,7],[0,1,2,7],[0,1,7],[0,1,7],[0,1,7],[0,1,2,3,4,5,6],[0,1],[0,1],[0,1],[0,1],[],[],[]]
 |17=>[[2,3,4,5,6,7,8,9,10,11],[2,3,4,5,6,7,8,9,10,11],[0,1,3,7],[0,1,2,7],[0,1,7],[0,1,7],[0,1,7],[0,1,2,3,4,5,6],[0,1],[0,1],[0,1],[0,1],[],[],[]]
 |_=>[]
def amq:Nat->List (List Nat)
 |5=>[[1],[0],[],[],[],[],[7,8,9,10,11],[6,8],[6,7],[6],[6],[6],[],[],[],[],[],[],[19,23,24,25,26,27,28,29,30,31],[18,23,24,25,26,27,28,29,30,31],[23,24,25,26,27,28,29,30,31],[23,24,25,26,27,28,29,30,31],[23,24,25,26,27,28,29,30,31],[18,19,20,21,22,24,25,26,27,28],[18,19,20,21,22,23,25],[18,19,20,21,22,23,24],[18,19,20,21,22,23],[18,19,20,21,22,23],[18,19,20,21,22,23],[18,19,20,21,22],[18,19,20,21,22],[18,19,20,21,22],[],[]]
 |_=>[]
def amr:Nat->List (List Nat)
 |0=>[[1,2,3,4,5],[0,5,6,7],[0,5,6,7],[0,5,6,7],[0,5,6,7],[0,1,2,3,4,6,7],[1,2,3,4,5],[1,2,3,4,5],[],[]]
 |_=>[]
def ams:Nat->List (List Nat)
 |2=>[[1,2,3,4],[0,5,6],[0,5,6],[0,5,6],[0,5,6],[1,2,3,4],[1,2,3,4],[],[],[]]
 |_=>[]
def amt:Nat->List (List Nat)
 |4=>[[3,4,5,6,7,8,9,10,11,12],[3,4,5,6,7,8,9,10,11,12],[3,4,5,6,7,8,9,10,11,12],[0,1,2,7,9,10,11,12],[0,1,2,7,9,10,11,12],[0,1,2,7,9,10,11,12],[0,1,2,7,9,10,11,12],[0,1,2,3,4,5,6,9,10,11,12],[0,1,2,9,10,11,12],[0,1,2,3,4,5,6,7,8],[0,1,2,3,4,5,6,7,8],[0,1,2,3,4,5,6,7,8],[0,1,2,3,4,5,6,7,8],[],[],[]]
 |_=>[]
def amu:Nat->List (List Nat)
 |1=>[[4,5,8,9,10,11,12,13,14,15,16,17,18,19,20,21,22,23,24],[4,5,8,9,10,11,12,13,14,15,16,17,18,19,20,21,22,23,24],[4,5,8,9,10,11,12,13,14,15,16,17,18,19,20,21,22,23,24],[4,5,8,9,10,11,12,13,14,15,16,17,18,19,20,21,22,23,24],[0,1,2,3,8,9,10,11,12,13,14,15,16,17,18,19,20,21,22,23,24],[0,1,2,3,8,9,10,11,12,13,14,15,16,17,18,19,20,21,22,23,24],[8,9,10,11,12,13,14,15,16,17,18,19,20,21,22,23,24],[8,9,10,11,12,13,14,15,16,17,18,19,20,21,22,23,24],[0,1,2,3,4,5,6,7,12,13,16,17,18,19,20,21,22,23,24,25],[0,1,2,3,4,5,6,7,12,13,16,17,18,19,20,21,22,23,24,25],[0,1,2,3,4,5,6,7,12,13,16,17,18,19,20,21,22,23,24,25],[0,1,2,3,4,5,6,7,12,13,16,17,18,19,20,21,22,23,24,25],[0,1,2,3,4,5,6,7,8,9,10,11,16,17,18,19,20,21,22,23,24,25],[0,1,2,3,4,5,6,7,8,9,10,11,16,17,18,19,20,21,22,23,24,25],[0,1,2,3,4,5,6,7,16,17,18,19,20,21,22,23,24,25],[0,1,2,3,4,5,6,7,16,17,18,19,20,21,22,23,24,25],[0,1,2,3,4,5,6,7,8,9,10,11,12,13,14,15,20,21,22,25,26],[0,1,2,3,4,5,6,7,8,9,10,11,12,13,14,15,20,21,22,25,26],[0,1,2,3,4,5,6,7,8,9,10,11,12,13,14,15,20,21,22,25,26],[0,1,2,3,4,5,6,7,8,9,10,11,12,13,14,15,20,21,22,25,26],[0,1,2,3,4,5,6,7,8,9,10,11,12,13,14,15,16,17,18,19,25,26],[0,1,2,3,4,5,6,7,8,9,10,11,12,13,14,15,16,17,18,19,25,26],[0,1,2,3,4,5,6,7,8,9,10,11,12,13,14,15,16,17,18,19,25,26],[0,1,2,3,4,5,6,7,8,9,10,11,12,13,14,15,25,26],[0,1,2,3,4,5,6,7,8,9,10,11,12,13,14,15,25,26],[8,9,10,11,12,13,14,15,16,17,18,19,20,21,22,23,24],[16,17,18,19,20,21,22,23,24],[]]
 |_=>[]
def amv:Nat->List (List Nat)
 |64=>[[1,2,3,4,5,6,7],[0,3,4,5,6,7],[0,3,4,5,6,7],[0,1,2,5],[0,1,2,5],[0,1,2,3,4],[0,1,2],[0,1,2],[],[],[11],[10,12],[11],[]]
 |67=>[[2,3,4,5,6,7,8,9,10,11,12],[2,3,4,5,6,7,8,9,10,11,12],[0,1,3,4,5,6,7,8,9,10,11],[0,1,2,7,8,9,10],[0,1,2,7,8,9,10],[0,1,2,7,8,9,10],[0,1,2,7,8,9,10],[0,1,2,3,4,5,6,8,9,10],[0,1,2,3,4,5,6,7,9],[0,1,2,3,4,5,6,7,8],[0,1,2,3,4,5,6,7],[0,1,2],[0,1],[],[]]
 |71=>[[4,5,6,7,8,9,10],[4,5,6,7,8,9,10],[4,5,6,7,8,9,10],[4,5,6,7,8,9,10],[0,1,2,3,5,7,8,9,10],[0,1,2,3,4,7,8,9,10],[0,1,2,3,7,8,9,10],[0,1,2,3,4,5,6,8],[0,1,2,3,4,5,6,7],[0,1,2,3,4,5,6],[0,1,2,3,4,5,6],[],[]]
 |_=>[]
def amw:Nat->List (List Nat)
 |6=>[[4,5,6,7,9],[4,5,6,7,9],[4,5,6,7,9],[4,5,6,7,9],[0,1,2,3,9],[0,1,2,3,9],[0,1,2,3,9],[0,1,2,3,9],[9],[0,1,2,3,4,5,6,7,8],[]]
 |8=>[[1,2],[0],[0],[]]
 |11=>[[2,7],[2,7],[0,1,7],[7],[7],[6,7],[5,7,8],[0,1,2,3,4,5,6],[6],[]]
 |13=>[[1,2],[0,2,3],[0,1],[1],[]]
 |_=>[]
def amx:Nat->List (List Nat)
 |5=>[[1,2,3,4],[0,3,4,5],[0,3,4,5],[0,1,2,5,6],[0,1,2,5,6],[1,2,3,4],[3,4],[]]
 |_=>[]
def amy:Nat->List (List Nat)
 |1=>[[4,5,11],[4,5,11],[4,5,11],[4,5,11],[0,1,2,3,11],[0,1,2,3,11],[11],[11],[9,10,11],[8,10,11,12],[8,9,11,12,13],[0,1,2,3,4,5,6,7,8,9,10],[9,10],[10],[]]
 |4=>[[4,5,6],[4,5,6],[4,5,6],[4,5,6],[0,1,2,3],[0,1,2,3],[0,1,2,3],[],[],[10,11],[9,11,12],[9,10,12,13],[10,11],[11]]
 |8=>[[1,2,3,4,5,6,7,8,9,10,11],[0,2,3,5,6,7,8,9,10],[0,1,5,6,7,8,9,10],[0,1,5,6,7,8,9,10],[0,5,6,7,8,9,10],[0,1,2,3,4,6,7,8,9],[0,1,2,3,4,5,8,9],[0,1,2,3,4,5,8,9],[0,1,2,3,4,5,6,7],[0,1,2,3,4,5,6,7],[0,1,2,3,4],[0],[],[],[]]
 |32=>[[1,2,3,4,5,6,7,8,9,10,11,12,13,14,15,16,17,18,19,20,21],[0,2,3,4,5,6,7,8,9,10,11,12,13,14,15,16,17,18,20],[0,1,4,7,10,11,12,13,14,15,16,17,18,20],[0,1,4,7,10,11,12,13,14,15,16,17,18,20],[0,1,2,3,7,10,11,12,13,14,15,16,17,18,20],[0,1,7,10,11,12,13,14,15,16,17,18,20],[0,1,7,10,11,12,13,14,15,16,17,18,20],[0,1,2,3,4,5,6,10,11,12,13,14,15,16,17,18,20],[0,1,10,11,12,13,14,15,16,17,18,20],[0,1,10,11,12,13,14,15,16,17,18,20],[0,1,2,3,4,5,6,7,8,9,12,15,16,20],[0,1,2,3,4,5,6,7,8,9,12,15,16,20],[0,1,2,3,4,5,6,7,8,9,10,11,15,16,20],[0,1,2,3,4,5,6,7,8,9,15,16,20],[0,1,2,3,4,5,6,7,8,9,15,16,20],[0,1,2,3,4,5,6,7,8,9,10,11,12,13,14,20],[0,1,2,3,4,5,6,7,8,9,10,11,12,13,14,20],[0,1,2,3,4,5,6,7,8,9,20],[0,1,2,3,4,5,6,7,8,9,20],[0,20],[0,1,2,3,4,5,6,7,8,9,10,11,12,13,14,15,16,17,18,19],[0],[],[]]
 |39=>[[1,2,3,4,6,7,8,9,10,12,13,14,15,16,18,19,20,21,22,23,24,25],[0,6,7,8,9,10,12,13,14,15,16,18,19,20,21,22,23,24,25],[0,6,7,8,9,10,12,13,14,15,16,18,19,20,21,22,23,24,25],[0,6,7,8,9,10,12,13,14,15,16,18,19,20,21,22,23,24,25],[0,6,7,8,9,10,12,13,14,15,16,18,19,20,21,22,23,24,25],[6,7,8,9,10,12,13,14,15,16,18,19,20,21,22,23,24,25],[0,1,2,3,4,5,7,8,9,10,12,13,14,15,16,18,19,20,21,22,23,24,25],[0,1,2,3,4,5,6,12,13,14,15,16,18,19,20,21,22,23,24,25],[0,1,2,3,4,5,6,12,13,14,15,16,18,19,20,21,22,23,24,25],[0,1,2,3,4,5,6,12,13,14,15,16,18,19,20,21,22,23,24,25],[0,1,2,3,4,5,6,12,13,14,15,16,18,19,20,21,22,23,24,25],[12,13,14,15,16,18,19,20,21,22,23,24,25],[0,1,2,3,4,5,6,7,8,9,10,11,13,14,15,16,18,19,20,21,22,23,24,25],[0,1,2,3,4,5,6,7,8,9,10,11,12,18,19,20,21,22,23,24,25],[0,1,2,3,4,5,6,7,8,9,10,11,12,18,19,20,21,22,23,24,25],[0,1,2,3,4,5,6,7,8,9,10,11,12,18,19,20,21,22,23,24,25],[0,1,2,3,4,5,6,7,8,9,10,11,12,18,19,20,21,22,23,24,25],[18,19,20,21,22,23,24,25],[0,1,2,3,4,5,6,7,8,9,10,11,12,13,14,15,16,17,21,22,23,24],[0,1,2,3,4,5,6,7,8,9,10,11,12,13,14,15,16,17,21,22,23,24],[0,1,2,3,4,5,6,7,8,9,10,11,12,13,14,15,16,17,21,22,23,24],[0,1,2,3,4,5,6,7,8,9,10,11,12,13,14,15,16,17,18,19,20,23,24],[0,1,2,3,4,5,6,7,8,9,10,11,12,13,14,15,16,17,18,19,20,23,24],[0,1,2,3,4,5,6,7,8,9,10,11,12,13,14,15,16,17,18,19,20,21,22],[0,1,2,3,4,5,6,7,8,9,10,11,12,13,14,15,16,17,18,19,20,21,22],[0,1,2,3,4,5,6,7,8,9,10,11,12,13,14,15,16,17],[],[],[]]
 |47=>[[2,3,4,6],[2,3,4,6],[0,1,3,4,6],[0,1,2,6],[0,1,2,6],[6],[0,1,2,3,4,5],[],[],[],[]]
 |53=>[[1,2,3,4,5,6,9,10],[0,3,4,5,9,10],[0,3,4,5,9,10],[0,1,2,4,5,9,10],[0,1,2,3,9,10],[0,1,2,3,9,10],[0,9,10],[9,10],[9,10],[0,1,2,3,4,5,6,7,8],[0,1,2,3,4,5,6,7,8],[],[]]
 |63=>[[4,5,6,7,8,9,10,16],[4,5,6,7,8,9,10,16],[4,5,6,7,8,9,10,16],[4,5,6,7,8,9,10,16],[0,1,2,3,6,7,8,9,10,16],[0,1,2,3,6,7,8,9,10,16],[0,1,2,3,4,5,8,16],[0,1,2,3,4,5,8,16],[0,1,2,3,4,5,6,7,16],[0,1,2,3,4,5,16],[0,1,2,3,4,5,16],[16],[16],[14,15,16],[13,15,16,17],[13,14,16,17,18],[0,1,2,3,4,5,6,7,8,9,10,11,12,13,14,15],[14,15],[15],[]]
 |_=>[]
def amz:Nat->List (List Nat)
 |6=>[[2,3,4,5,6,7,8],[2,3,4,5,6,7,8],[0,1,4],[0,1,4],[0,1,2,3],[0,1],[0,1],[0,1],[0,1],[],[],[]]
 |_=>[]
def amA:Nat->List (List Nat)
 |5=>[[1,2,3,4,5],[0,2,3,4,5,6,7],[0,1,4,5],[0,1,4,5],[0,1,2,3,6,7],[0,1,2,3,6,7],[1,4,5],[1,4,5],[],[]]
 |_=>[]
def amB:Nat->List (List Nat)
 |4=>[[4,7,8],[4,7,8],[4,7,8],[4,7,8],[0,1,2,3,7,8],[7,8],[7,8],[0,1,2,3,4,5,6],[0,1,2,3,4,5,6],[]]
 |7=>[[1,2,3,4,5,6,7],[0,5,6],[0,5,6],[0,5,6],[0,5,6],[0,1,2,3,4],[0,1,2,3,4],[0],[],[],[]]
 |_=>[]
def amC:Nat->List (List Nat)
 |5=>[[1],[0,2,3],[1],[1],[],[]]
 |7=>[[1,2,3,4,5,6,7,8],[0,4,5,6],[0,4,5,6],[0,4,5,6],[0,1,2,3],[0,1,2,3],[0,1,2,3],[0],[0],[],[]]
 |10=>[[1],[0,2,3],[1],[1],[],[]]
 |13=>[[1,2,3,4,5,6,7,8],[0,4,5,6],[0,4,5,6],[0,4,5,6],[0,1,2,3],[0,1,2,3],[0,1,2,3],[0],[0],[],[]]
 |16=>[[1],[0,2,3],[1],[1],[],[]]
 |18=>[[1,2,3,4,5,6,7,8],[0,4,5,6],[0,4,5,6],[0,4,5,6],[0,1,2,3],[0,1,2,3],[0,1,2,3],[0],[0],[],[]]
 |19=>[[1,2,3],[0],[0],[0],[],[]]
 |21=>[[1,2,3,4,5],[0],[0],[0],[0],[0],[],[]]
 |_=>[]
def amD:Nat->List (List Nat)
 |6=>[[1,2,3,4,5,6,7,8],[0,4,5,6],[0,4,5,6],[0,4,5,6],[0,1,2,3],[0,1,2,3],[0,1,2,3],[0],[0],[],[]]
 |_=>[]
def amE:Nat->List (List Nat)
 |5=>[[5,8,9,10,11,12,13,14,15],[5,8,9,10,11,12,13,14,15],[5,8,9,10,11,12,13,14,15],[5,8,9,10,11,12,13,14,15],[5,8,9,10,11,12,13,14,15],[0,1,2,3,4,8,9,10,11,12,13,14,15],[8,9,10,11,12,13,14,15],[8,9,10,11,12,13,14,15],[0,1,2,3,4,5,6,7,13,16],[0,1,2,3,4,5,6,7,13,16],[0,1,2,3,4,5,6,7,13,16],[0,1,2,3,4,5,6,7,13,16],[0,1,2,3,4,5,6,7,13,16],[0,1,2,3,4,5,6,7,8,9,10,11,12,16],[0,1,2,3,4,5,6,7,16],[0,1,2,3,4,5,6,7,16],[8,9,10,11,12,13,14,15],[]]
 |_=>[]
def amF:Nat->List (List Nat)
 |4=>[[2,3,4],[2,3,4],[0,1,5],[0,1,5],[0,1,5],[2,3,4],[]]
 |_=>[]
def amG:Nat->List (List Nat)
 |10=>[[4,5,6,7],[4,5,6,7],[4,5,6,7],[4,5,6,7],[0,1,2,3,5,6,7],[0,1,2,3,4],[0,1,2,3,4],[0,1,2,3,4],[],[]]
 |18=>[[4,7,8,9],[4,7,8,9],[4,7,8,9],[4,7,8,9],[0,1,2,3,7,8,9],[7,8,9],[7,8,9],[0,1,2,3,4,5,6],[0,1,2,3,4,5,6],[0,1,2,3,4,5,6],[],[],[],[14,15],[13,15,16],[13,14,16,17],[14,15],[15],[]]
 |_=>[]
def amH:Nat->List (List Nat)
 |9=>[[5,8,10,11,12,13,14,15,16,17,18,19,20],[5,8,10,11,12,13,14,15,16,17,18,19,20],[5,8,10,11,12,13,14,15,16,17,18,19,20],[5,8,10,11,12,13,14,15,16,17,18,19,20],[5,8,10,11,12,13,14,15,16,17,18,19,20],[0,1,2,3,4,8,10,11,12,13,14,15,16,17,18,19,20],[8,10,11,12,13,14,15,16,17,18,19,20],[8,10,11,12,13,14,15,16,17,18,19,20],[0,1,2,3,4,5,6,7,10,11,12,13,14,15,16,17,18,19,20],[10,11,12,13,14,15,16,17,18,19,20],[0,1,2,3,4,5,6,7,8,9,14,17,21],[0,1,2,3,4,5,6,7,8,9,14,17,21],[0,1,2,3,4,5,6,7,8,9,14,17,21],[0,1,2,3,4,5,6,7,8,9,14,17,21],[0,1,2,3,4,5,6,7,8,9,10,11,12,13,17,21],[0,1,2,3,4,5,6,7,8,9,17,21],[0,1,2,3,4,5,6,7,8,9,17,21],[0,1,2,3,4,5,6,7,8,9,10,11,12,13,14,15,16,21],[0,1,2,3,4,5,6,7,8,9,21],[0,1,2,3,4,5,6,7,8,9,21],[0,1,2,3,4,5,6,7,8,9,21],[10,11,12,13,14,15,16,17,18,19,20],[]]
 |_=>[]
def amI:Nat->List (List Nat)
 |6=>[[3,4,5],[3,4,5],[3,4,5],[0,1,2],[0,1,2],[0,1,2],[],[]]
 |7=>[[3,4,5],[3,4,5],[3,4,5],[0,1,2],[0,1,2],[0,1,2],[],[]]
 |8=>[[3,4,5,6,7,8,9,10,11,12],[3,4,5,6,7,8,9,10,11,12],[3,4,5,6,7,8,9,10,11,12],[0,1,2,6,7,8,9,10,11,12],[0,1,2,6,7,8,9,10,11,12],[0,1,2,6,7,8,9,10,11,12],[0,1,2,3,4,5,7,8,9,12],[0,1,2,3,4,5,6,12],[0,1,2,3,4,5,6,12],[0,1,2,3,4,5,6,12],[0,1,2,3,4,5,12],[0,1,2,3,4,5,12],[0,1,2,3,4,5,6,7,8,9,10,11],[],[]]
 |11=>[[3,4,5],[3,4,5],[3,4,5],[0,1,2],[0,1,2],[0,1,2],[],[]]
 |14=>[[3,4,5],[3,4,5],[3,4,5],[0,1,2],[0,1,2],[0,1,2],[],[]]
 |15=>[[3,4,5,6,7,8,9,10,11,12],[3,4,5,6,7,8,9,10,11,12],[3,4,5,6,7,8,9,10,11,12],[0,1,2,6,7,8,9,10,11,12],[0,1,2,6,7,8,9,10,11,12],[0,1,2,6,7,8,9,10,11,12],[0,1,2,3,4,5,7,8,9,12],[0,1,2,3,4,5,6,12],[0,1,2,3,4,5,6,12],[0,1,2,3,4,5,6,12],[0,1,2,3,4,5,12],[0,1,2,3,4,5,12],[0,1,2,3,4,5,6,7,8,9,10,11],[],[]]
 |17=>[[3,4,5,6,7,8],[3,4,5,6,7,8],[3,4,5,6,7,8],[0,1,2,6,7,8,9],[0,1,2,6,7,8,9],[0,1,2,6,7,8,9],[0,1,2,3,4,5,9,10],[0,1,2,3,4,5,9,10],[0,1,2,3,4,5,9,10],[3,4,5,6,7,8],[6,7,8],[]]
 |24=>[[3,4,5,6,7,8,9,10,11,12,13],[3,4,5,6,7,8,9,10,11,12,13],[3,4,5,6,7,8,9,10,11,12,13],[0,1,2,6,7,8,9,10,11,12,13],[0,1,2,6,7,8,9,10,11,12,13],[0,1,2,6,7,8,9,10,11,12,13],[0,1,2,3,4,5,7,8,9,10,11,12,13],[0,1,2,3,4,5,6,8,9,10,11,12,13],[0,1,2,3,4,5,6,7,13],[0,1,2,3,4,5,6,7,13],[0,1,2,3,4,5,6,7,13],[0,1,2,3,4,5,6,7,13],[0,1,2,3,4,5,6,7,13],[0,1,2,3,4,5,6,7,8,9,10,11,12],[],[]]
 |31=>[[3,4,5,6,7,8,9,10,11,12,13,14,15,16,17,18,19,20],[3,4,5,6,7,8,9,10,11,12,13,14,15,16,17,18,19,20],[3,4,5,6,7,8,9,10,11,12,13,14,15,16,17,18,19,20],[0,1,2,6,7,8,9,10,11,12,13,14,15,16,17,18,19,20],[0,1,2,6,7,8,9,10,11,12,13,14,15,16,17,18,19,20],[0,1,2,6,7,8,9,10,11,12,13,14,15,16,17,18,19,20],[0,1,2,3,4,5,9,10,11,12,13,14,15,16,17,18,19,20],[0,1,2,3,4,5,9,10,11,12,13,14,15,16,17,18,19,20],[0,1,2,3,4,5,9,10,11,12,13,14,15,16,17,18,19,20],[0,1,2,3,4,5,6,7,8,10,11,12,15,16,17,18,19],[0,1,2,3,4,5,6,7,8,9,15,16,17,18,19],[0,1,2,3,4,5,6,7,8,9,15,16,17,18,19],[0,1,2,3,4,5,6,7,8,9,15,16,17,18,19],[0,1,2,3,4,5,6,7,8,15,16,17,18,19],[0,1,2,3,4,5,6,7,8,15,16,17,18,19],[0,1,2,3,4,5,6,7,8,9,10,11,12,13,14,16,17,18,19,20],[0,1,2,3,4,5,6,7,8,9,10,11,12,13,14,15],[0,1,2,3,4,5,6,7,8,9,10,11,12,13,14,15],[0,1,2,3,4,5,6,7,8,9,10,11,12,13,14,15],[0,1,2,3,4,5,6,7,8,9,10,11,12,13,14,15],[0,1,2,3,4,5,6,7,8,15],[],[]]
 |38=>[[3,4,5,6,7,8,9,10,11,12,13,14,15,16,17],[3,4,5,6,7,8,9,10,11,12,13,14,15,16,17],[3,4,5,6,7,8,9,10,11,12,13,14,15,16,17],[0,1,2,6,7,8,9,10,11,12,13,14,15,16,17],[0,1,2,6,7,8,9,10,11,12,13,14,15,16,17],[0,1,2,6,7,8,9,10,11,12,13,14,15,16,17],[0,1,2,3,4,5,9,10,11,12,13,14,15,16,17],[0,1,2,3,4,5,9,10,11,12,13,14,15,16,17],[0,1,2,3,4,5,9,10,11,12,13,14,15,16,17],[0,1,2,3,4,5,6,7,8,12,13,14,15,16],[0,1,2,3,4,5,6,7,8,12,13,14,15,16],[0,1,2,3,4,5,6,7,8,12,13,14,15,16],[0,1,2,3,4,5,6,7,8,9,10,11,13,14,15,16,17],[0,1,2,3,4,5,6,7,8,9,10,11,12],[0,1,2,3,4,5,6,7,8,9,10,11,12],[0,1,2,3,4,5,6,7,8,9,10,11,12],[0,1,2,3,4,5,6,7,8,9,10,11,12],[0,1,2,3,4,5,6,7,8,12],[],[]]
 |40=>[[3,4,5,6,7,8,9,10,11,12,13,14,15,16,17,18],[3,4,5,6,7,8,9,10,11,12,13,14,15,16,17,18],[3,4,5,6,7,8,9,10,11,12,13,14,15,16,17,18],[0,1,2,14,15,16,17],[0,1,2,14,15,16,17],[0,1,2,14,15,16,17],[0,1,2,14,15,16,17],[0,1,2,14,15,16,17],[0,1,2,14,15,16,17],[0,1,2,14,15,16,17],[0,1,2,14,15,16,17],[0,1,2,14,15,16,17],[0,1,2,14,15,16,17],[0,1,2,14,15,16,17],[0,1,2,3,4,5,6,7,8,9,10,11,12,13],[0,1,2,3,4,5,6,7,8,9,10,11,12,13],[0,1,2,3,4,5,6,7,8,9,10,11,12,13],[0,1,2,3,4,5,6,7,8,9,10,11,12,13],[0,1,2],[],[]]
 |42=>[[3,4,5,6,7,8,9,10,11,12,13,14,15,16,17,18],[3,4,5,6,7,8,9,10,11,12,13,14,15,16,17,18],[3,4,5,6,7,8,9,10,11,12,13,14,15,16,17,18],[0,1,2,14,15,16,17],[0,1,2,14,15,16,17],[0,1,2,14,15,16,17],[0,1,2,14,15,16,17],[0,1,2,14,15,16,17],[0,1,2,14,15,16,17],[0,1,2,14,15,16,17],[0,1,2,14,15,16,17],[0,1,2,14,15,16,17],[0,1,2,14,15,16,17],[0,1,2,14,15,16,17],[0,1,2,3,4,5,6,7,8,9,10,11,12,13],[0,1,2,3,4,5,6,7,8,9,10,11,12,13],[0,1,2,3,4,5,6,7,8,9,10,11,12,13],[0,1,2,3,4,5,6,7,8,9,10,11,12,13],[0,1,2],[],[]]
 |44=>[[3,4,5,6,7,8,9,10,11,12,13,14,15,16,17,18,19,20,21,22],[3,4,5,6,7,8,9,10,11,12,13,14,15,16,17,18,19,20,21,22],[3,4,5,6,7,8,9,10,11,12,13,14,15,16,17,18,19,20,21,22],[0,1,2,6,7,8,9,10,11,12,13,14,15,16,17,18,19,20,21,22],[0,1,2,6,7,8,9,10,11,12,13,14,15,16,17,18,19,20,21,22],[0,1,2,6,7,8,9,10,11,12,13,14,15,16,17,18,19,20,21,22],[0,1,2,3,4,5],[0,1,2,3,4,5],[0,1,2,3,4,5],[0,1,2,3,4,5],[0,1,2,3,4,5],[0,1,2,3,4,5],[0,1,2,3,4,5],[0,1,2,3,4,5],[0,1,2,3,4,5],[0,1,2,3,4,5],[0,1,2,3,4,5],[0,1,2,3,4,5],[0,1,2,3,4,5],[0,1,2,3,4,5],[0,1,2,3,4,5],[0,1,2,3,4,5],[0,1,2,3,4,5],[],[]]
 |46=>[[3,4,5,6,7,8,9,10,11,12,13,14,15,16,17,18,19,20,21,22],[3,4,5,6,7,8,9,10,11,12,13,14,15,16,17,18,19,20,21,22],[3,4,5,6,7,8,9,10,11,12,13,14,15,16,17,18,19,20,21,22],[0,1,2,6,7,8,9,10,11,12,13,14,15,16,17,18,19,20,21,22],[0,1,2,6,7,8,9,10,11,12,13,14,15,16,17,18,19,20,21,22],[0,1,2,6,7,8,9,10,11,12,13,14,15,16,17,18,19,20,21,22],[0,1,2,3,4,5],[0,1,2,3,4,5],[0,1,2,3,4,5],[0,1,2,3,4,5],[0,1,2,3,4,5],[0,1,2,3,4,5],[0,1,2,3,4,5],[0,1,2,3,4,5],[0,1,2,3,4,5],[0,1,2,3,4,5],[0,1,2,3,4,5],[0,1,2,3,4,5],[0,1,2,3,4,5],[0,1,2,3,4,5],[0,1,2,3,4,5],[0,1,2,3,4,5],[0,1,2,3,4,5],[],[]]
 |_=>[]
def amJ:Nat->List (List Nat)
 |3=>[[4,5,6,7,8],[4,5,6,7,8],[4,5,6,7,8],[4,5,6,7,8],[0,1,2,3,5,6,7,8],[0,1,2,3,4,6,7],[0,1,2,3,4,5],[0,1,2,3,4,5],[0,1,2,3,4],[],[]]
 |6=>[[4,5,6,7,8],[4,5,6,7,8],[4,5,6,7,8],[4,5,6,7,8],[0,1,2,3,5,6,8],[0,1,2,3,4,6,8],[0,1,2,3,4,5,8],[0,1,2,3,8],[0,1,2,3,4,5,6,7],[],[]]
 |_=>[]
def amK:Nat->List (List Nat)
 |6=>[[4,5,6,7,8,9,10,11],[4,5,6,7,8,9,10,11],[4,5,6,7,8,9,10,11],[4,5,6,7,8,9,10,11],[0,1,2,3,5,6,7,8,9,10,11],[0,1,2,3,4,6,7,8,9,10],[0,1,2,3,4,5,8],[0,1,2,3,4,5,8],[0,1,2,3,4,5,6,7],[0,1,2,3,4,5],[0,1,2,3,4,5],[0,1,2,3,4],[],[]]
 |9=>[[4,6,7,8,9,10,11,12,13,14,15,16,17],[4,6,7,8,9,10,11,12,13,14,15,16,17],[4,6,7,8,9,10,11,12,13,14,15,16,17],[4,6,7,8,9,10,11,12,13,14,15,16,17],[0,1,2,3,6,7,8,9,10,11,12,13,14,15,16,17],[6,7,8,9,10,11,12,13,14,15,16,17],[0,1,2,3,4,5,8,9,10,11,12,13,14,15,16],[0,1,2,3,4,5,8,9,10,11,12,13,14,15,16],[0,1,2,3,4,5,6,7,12,13,14,15],[0,1,2,3,4,5,6,7,12,13,14,15],[0,1,2,3,4,5,6,7,12,13,14,15],[0,1,2,3,4,5,6,7,12,13,14,15],[0,1,2,3,4,5,6,7,8,9,10,11,13,14,15],[0,1,2,3,4,5,6,7,8,9,10,11,12,14],[0,1,2,3,4,5,6,7,8,9,10,11,12,13],[0,1,2,3,4,5,6,7,8,9,10,11,12],[0,1,2,3,4,5,6,7],[0,1,2,3,4,5],[]]
 |_=>[]
def amL:Nat->List (List Nat)
 |1=>[[4,5,6,7],[4,5,6,7],[4,5,6,7],[4,5,6,7],[0,1,2,3],[0,1,2,3],[0,1,2,3],[0,1,2,3],[],[]]
 |_=>[]
def amM:Nat->List (List Nat)
 |3=>[[4,5,6,7],[4,5,6,7],[4,5,6,7],[4,5,6,7],[0,1,2,3],[0,1,2,3],[0,1,2,3],[0,1,2,3],[],[]]
 |_=>[]
def amN:Nat->List (List Nat)
 |6=>[[2,5,6,7,8,9],[2,5,6,7,8,9],[0,1,5,6,7,8,9],[5,6,7,8,9],[5,6,7,8,9],[0,1,2,3,4,7,10],[0,1,2,3,4,7,10],[0,1,2,3,4,5,6,10],[0,1,2,3,4,10],[0,1,2,3,4,10],[5,6,7,8,9],[],[]]
 |_=>[]
def amO:Nat->List (List Nat)
 |10=>[[1,4,5,6],[0,4,5,6],[4,5,6],[4,5,6],[0,1,2,3,6],[0,1,2,3,6],[0,1,2,3,4,5],[],[],[]]
 |_=>[]
def amP:Nat->List (List Nat)
 |9=>[[1,3,4,5,6],[0,3,4,5,6],[3,4,5,6],[0,1,2,4,7],[0,1,2,3,7],[0,1,2,7],[0,1,2,7],[3,4,5,6],[],[]]
 |_=>[]
def amQ:Nat->List (List Nat)
 |2=>[[2,3],[2,3],[0,1,4],[0,1,4],[2,3],[]]
 |_=>[]
def amR:Nat->List (List Nat)
 |17=>[[3,4,5],[3,4,5],[3,4,5],[0,1,2,6],[0,1,2,6],[0,1,2,6],[3,4,5],[]]
 |_=>[]
def amS:Nat->List (List Nat)
 |18=>[[5,6],[5,6],[5,6],[5,6],[5,6],[0,1,2,3,4],[0,1,2,3,4],[]]
 |_=>[]
def amT:Nat->List (List Nat)
 |0=>[[3,4,5],[3,4,5],[3,4,5],[0,1,2],[0,1,2],[0,1,2],[]]
 |_=>[]
def amU:Nat->List (List Nat)
 |2=>[[4,7,8,9,10,11,12,13,14],[4,7,8,9,10,11,12,13,14],[4,7,8,9,10,11,12,13,14],[4,7,8,9,10,11,12,13,14],[0,1,2,3,7,8,9,10,11,12,13,14],[7,8,9,10,11,12,13,14],[7,8,9,10,11,12,13,14],[0,1,2,3,4,5,6,12,15],[0,1,2,3,4,5,6,12,15],[0,1,2,3,4,5,6,12,15],[0,1,2,3,4,5,6,12,15],[0,1,2,3,4,5,6,12,15],[0,1,2,3,4,5,6,7,8,9,10,11,15],[0,1,2,3,4,5,6,15],[0,1,2,3,4,5,6,15],[7,8,9,10,11,12,13,14],[]]
 |_=>[]
def amV:Nat->List (List Nat)
 |3=>[[4,7,9,10,11,12,13,14,15,16,17,18],[4,7,9,10,11,12,13,14,15,16,17,18],[4,7,9,10,11,12,13,14,15,16,17,18],[4,7,9,10,11,12,13,14,15,16,17,18],[0,1,2,3,7,9,10,11,12,13,14,15,16,17,18],[7,9,10,11,12,13,14,15,16,17,18],[7,9,10,11,12,13,14,15,16,17,18],[0,1,2,3,4,5,6,9,10,11,12,13,14,15,16,17,18],[9,10,11,12,13,14,15,16,17,18],[0,1,2,3,4,5,6,7,8,13,16,19],[0,1,2,3,4,5,6,7,8,13,16,19],[0,1,2,3,4,5,6,7,8,13,16,19],[0,1,2,3,4,5,6,7,8,13,16,19],[0,1,2,3,4,5,6,7,8,9,10,11,12,16,19],[0,1,2,3,4,5,6,7,8,16,19],[0,1,2,3,4,5,6,7,8,16,19],[0,1,2,3,4,5,6,7,8,9,10,11,12,13,14,15,19],[0,1,2,3,4,5,6,7,8,19],[0,1,2,3,4,5,6,7,8,19],[9,10,11,12,13,14,15,16,17,18],[]]
 |_=>[]
def amW:Nat->List (List Nat)
 |6=>[[2,3,4],[2,3,4],[0,1,5],[0,1,5],[0,1,5],[2,3,4],[]]
 |_=>[]
def amX:Nat->List (List Nat)
 |1=>[[4,5,6,7],[4,5,6,7],[4,5,6,7],[4,5,6,7],[0,1,2,3],[0,1,2,3],[0,1,2,3],[0,1,2,3],[],[],[]]
 |_=>[]
def amY:Nat->List (List Nat)
 |18=>[[1,2,3,4,5,6,7,8,9,10,11,12,13,14,15,16,17,18,19,20,21],[0,5,6,7,8,9,10,11,12,13,14,15,16,17,18,19,20],[0,5,6,7,8,9,10,11,12,13,14,15,16,17,18,19,20],[0,5,6,7,8,9,10,11,12,13,14,15,16,17,18,19,20],[0,5,6,7,8,9,10,11,12,13,14,15,16,17,18,19,20],[0,1,2,3,4,7,8,9,10,11,12,13,14,15,16,17,18],[0,1,2,3,4,7,8,9,10,11,12,13,14,15,16,17,18],[0,1,2,3,4,5,6,9,10,11,12,13,14,15,16,17,18],[0,1,2,3,4,5,6,9,10,11,12,13,14,15,16,17,18],[0,1,2,3,4,5,6,7,8,10,11,12,13,14,15,16,17,18],[0,1,2,3,4,5,6,7,8,9,12,13,14,15,16,17,18],[0,1,2,3,4,5,6,7,8,9,12,13,14,15,16,17,18],[0,1,2,3,4,5,6,7,8,9,10,11,14,15,16,17,18],[0,1,2,3,4,5,6,7,8,9,10,11,14,15,16,17,18],[0,1,2,3,4,5,6,7,8,9,10,11,12,13,16,17,18],[0,1,2,3,4,5,6,7,8,9,10,11,12,13,16,17,18],[0,1,2,3,4,5,6,7,8,9,10,11,12,13,14,15,17,18],[0,1,2,3,4,5,6,7,8,9,10,11,12,13,14,15,16],[0,1,2,3,4,5,6,7,8,9,10,11,12,13,14,15,16],[0,1,2,3,4],[0,1,2,3,4],[0],[],[],[]]
 |_=>[]
def amZ:Nat->List (List Nat)
 |5=>[[4,5,6],[4,5,6],[4,5,6],[4,5,6],[0,1,2,3,7],[0,1,2,3,7],[0,1,2,3,7],[4,5,6],[]]
 |8=>[[4,5,11],[4,5,11],[4,5,11],[4,5,11],[0,1,2,3,11],[0,1,2,3,11],[11],[11],[9,10,11],[8,10,11,12],[8,9,11,12,13],[0,1,2,3,4,5,6,7,8,9,10],[9,10],[10],[]]
 |11=>[[4,5,6,7,13],[4,5,6,7,13],[4,5,6,7,13],[4,5,6,7,13],[0,1,2,3,6,7,13],[0,1,2,3,6,7,13],[0,1,2,3,4,5,13],[0,1,2,3,4,5,13],[13],[13],[11,12,13],[10,12,13,14],[10,11,13,14,15],[0,1,2,3,4,5,6,7,8,9,10,11,12],[11,12],[12],[]]
 |12=>[[1,2],[0,3],[0,3],[1,2],[]]
 |15=>[[4,5,11],[4,5,11],[4,5,11],[4,5,11],[0,1,2,3,11],[0,1,2,3,11],[11],[11],[9,10,11],[8,10,11,12],[8,9,11,12,13],[0,1,2,3,4,5,6,7,8,9,10],[9,10],[10],[]]
 |17=>[[1,2,3,4,5,6,7,8,9,10,13,14,15],[0,4,5,6,7,8,13,14,15],[0,4,5,6,7,8,13,14,15],[0,4,5,6,7,8,13,14,15],[0,1,2,3,5,6,7,8,13,14,15],[0,1,2,3,4,7,8,13,14,15],[0,1,2,3,4,7,8,13,14,15],[0,1,2,3,4,5,6,13,14,15],[0,1,2,3,4,5,6,13,14,15],[0,13,14,15],[0,13,14,15],[13,14,15],[13,14,15],[0,1,2,3,4,5,6,7,8,9,10,11,12,16],[0,1,2,3,4,5,6,7,8,9,10,11,12,16],[0,1,2,3,4,5,6,7,8,9,10,11,12,16],[13,14,15],[]]
 |29=>[[1,2,5,6,7],[0,5,6,7],[0,5,6,7],[5,6,7],[5,6,7],[0,1,2,3,4],[0,1,2,3,4],[0,1,2,3,4],[],[13],[13],[13],[13],[9,10,11,12],[]]
 |_=>[]
def am0:Nat->List (List Nat)
 |4=>[[1,2,7,8],[0,7,8],[0,7,8],[7,8],[7,8],[6,7,8],[5,7,8,9],[0,1,2,3,4,5,6,8],[0,1,2,3,4,5,6,7],[6],[]]
 |_=>[]
def am1:Nat->List (List Nat)
 |4=>[[1,2,4,6,7],[0,4,6,7],[0,4,6,7],[4,6,7],[0,1,2,3,6,7],[6,7],[0,1,2,3,4,5],[0,1,2,3,4,5],[]]
 |_=>[]
def am2:Nat->List (List Nat)
 |1=>[[1,4,5],[0,4,5],[4,5],[4,5],[0,1,2,3],[0,1,2,3],[]]
 |_=>[]
def am3:Nat->List (List Nat)
 |1=>[[1,4,5],[0,4,5],[4,5],[4,5],[0,1,2,3],[0,1,2,3],[]]
 |_=>[]
def am4:Nat->List (List Nat)
 |2=>[[2,3],[2,3],[0,1],[0,1],[]]
 |8=>[[2,4,7,8],[2,4,7,8],[0,1,4,7,8],[4,7,8],[0,1,2,3,7,8],[7,8],[7,8],[0,1,2,3,4,5,6],[0,1,2,3,4,5,6],[]]
 |9=>[[1,2,3,4,5,7,8,10,11,12,13,14,15],[0,3,7,8,10,11,12,13,14,15],[0,3,7,8,10,11,12,13,14,15],[0,1,2,7,8,10,11,12,13,14,15],[0,7,8,10,11,12,13,14,15],[0,7,8,10,11,12,13,14,15],[7,8,10,11,12,13,14,15],[0,1,2,3,4,5,6,10,11,12,13,14,15],[0,1,2,3,4,5,6,10,11,12,13,14,15],[10,11,12,13,14,15],[0,1,2,3,4,5,6,7,8,9,12],[0,1,2,3,4,5,6,7,8,9,12],[0,1,2,3,4,5,6,7,8,9,10,11],[0,1,2,3,4,5,6,7,8,9],[0,1,2,3,4,5,6,7,8,9],[0,1,2,3,4,5,6,7,8,9],[]]
 |_=>[]
def am5:Nat->List (List Nat)
 |8=>[[1,2,3,5,6,7],[0,2,3,5,6,7],[0,1,5,6,7],[0,1,5,6,7],[5,6,7],[0,1,2,3,4,8],[0,1,2,3,4,8],[0,1,2,3,4,8],[5,6,7],[]]
 |12=>[[1,2,3,4,5,6,8,9,10],[0,2,3,5,6,8,9,10],[0,1,3,5,6,8,9,10],[0,1,2,5,6,8,9,10],[0,5,6,8,9,10],[0,1,2,3,4,8,9,10],[0,1,2,3,4,8,9,10],[8,9,10],[0,1,2,3,4,5,6,7,11],[0,1,2,3,4,5,6,7,11],[0,1,2,3,4,5,6,7,11],[8,9,10],[]]
 |15=>[[1,2,3,5,6,7],[0,2,3,5,6,7],[0,1,5,6,7],[0,1,5,6,7],[5,6,7],[0,1,2,3,4,8],[0,1,2,3,4,8],[0,1,2,3,4,8],[5,6,7],[]]
 |_=>[]
def am6:Nat->List (List Nat)
 |1=>[[2],[2],[0,1],[],[]]
 |_=>[]
def am7:Nat->List (List Nat)
 |28=>[[2,3,4,5,6],[2,3,4,5,6],[0,1,5,6],[0,1,5,6],[0,1,5,6],[0,1,2,3,4],[0,1,2,3,4],[],[]]
 |30=>[[1,2],[0],[0],[],[]]
 |_=>[]
def am8:Nat->List (List Nat)
 |8=>[[1,4,5,6,7],[0,4,5,6,7],[4,5,6,7],[4,5,6,7],[0,1,2,3,5],[0,1,2,3,4],[0,1,2,3],[0,1,2,3],[],[]]
 |_=>[]
def am9:Nat->List (List Nat)
 |13=>[[1],[0,2],[1],[]]
 |_=>[]
def ana:Nat->List (List Nat)
 |5=>[[8,9],[8,9],[8,9],[8,9],[8,9],[8,9],[8,9],[8,9],[0,1,2,3,4,5,6,7],[0,1,2,3,4,5,6,7],[]]
 |_=>[]
def anb:Nat->List (List Nat)
 |6=>[[1,2,3,4,5,6,7],[0,2,3,4,5,7],[0,1,4,5,7],[0,1,4,5,7],[0,1,2,3,7],[0,1,2,3,7],[0,7],[0,1,2,3,4,5,6],[],[]]
 |10=>[[2,3],[2,3],[0,1],[0,1],[]]
 |12=>[[2,3],[2,3],[0,1],[0,1],[]]
 |15=>[[1,2,3,5,6],[0,5,6],[0,5,6],[0,5,6],[5,6],[0,1,2,3,4],[0,1,2,3,4],[]]
 |17=>[[2,3],[2,3],[0,1],[0,1],[]]
 |_=>[]
def anc:Nat->List (List Nat)
 |7=>[[2,3],[2,3],[0,1],[0,1],[],[]]
 |_=>[]
def ane:Nat->List (List Nat)
 |2=>[[2,3,4],[2,3,4],[0,1],[0,1],[0,1],[],[],[]]
 |4=>[[2,3,4,5],[2,3,4,5],[0,1,3],[0,1,2],[0,1],[0,1],[],[],[]]
 |7=>[[2,3,4,5],[2,3,4,5],[0,1,3],[0,1,2],[0,1],[0,1],[],[],[]]
 |_=>[]
def anf:Nat->List (List Nat)
 |4=>[[2,3,4],[2,3,4],[0,1],[0,1],[0,1],[],[],[]]
 |10=>[[2,3,4,5],[2,3,4,5],[0,1,3],[0,1,2],[0,1],[0,1],[],[],[]]
 |_=>[]
def ang:Nat->List (List Nat)
 |5=>[[1,2],[0],[0],[],[],[]]
 |_=>[]
def anh:Nat->List (List Nat)
 |4=>[[2,3,4,5],[2,3,4,5],[0,1],[0,1],[0,1],[0,1],[],[],[]]
 |6=>[[2,3,4],[2,3,4],[0,1],[0,1],[0,1],[],[],[]]
 |_=>[]
def ani:Nat->List (List Nat)
 |5=>[[1,4,5,6,7,9],[0,4,5,6,7,9],[4,5,6,7,9],[4,5,6,7,9],[0,1,2,3,5,9],[0,1,2,3,4,9],[0,1,2,3,9],[0,1,2,3,9],[9],[0,1,2,3,4,5,6,7,8],[],[]]
 |_=>[]
def anj:Nat->List (List Nat)
 |4=>[[1,4,5,6,7],[0,4,5,6,7],[4,5,6,7],[4,5,6,7],[0,1,2,3,5],[0,1,2,3,4],[0,1,2,3],[0,1,2,3],[]]
 |6=>[[1,4,5,6,7],[0,4,5,6,7],[4,5,6,7],[4,5,6,7],[0,1,2,3,5],[0,1,2,3,4],[0,1,2,3],[0,1,2,3],[]]
 |_=>[]
def ank:Nat->List (List Nat)
 |5=>[[1,5,6,7,8,10],[0,5,6,7,8,10],[5,6,7,8,10],[5,6,7,8,10],[5,6,7,8,10],[0,1,2,3,4,6,10],[0,1,2,3,4,5,10],[0,1,2,3,4,10],[0,1,2,3,4,10],[10],[0,1,2,3,4,5,6,7,8,9],[],[]]
 |_=>[]
def anl:Nat->List (List Nat)
 |2=>[[2,3],[2,3],[0,1],[0,1],[]]
 |_=>[]
def anm:Nat->List (List Nat)
 |7=>[[3,4,5,6,9,10],[3,4,5,6,9,10],[3,4,5,6,9,10],[0,1,2,4,5,6,7,9,10],[0,1,2,3,5,6,9,10],[0,1,2,3,4,9,10],[0,1,2,3,4,9,10],[3,9,10],[9,10],[0,1,2,3,4,5,6,7,8],[0,1,2,3,4,5,6,7,8],[],[]]
 |_=>[]
def ann:Nat->List (List Nat)
 |10=>[[1,2,3,4,5,7],[0,4,5,7],[0,4,5,7],[0,4,5,7],[0,1,2,3,7],[0,1,2,3,7],[7],[0,1,2,3,4,5,6],[]]
 |_=>[]
def ano:Nat->List (List Nat)
 |3=>[[3,4],[3,4],[3,4],[0,1,2],[0,1,2],[],[]]
 |17=>[[2,3,4,5,6],[2,3,4,5,6],[0,1,5,6],[0,1,5,6],[0,1,5,6],[0,1,2,3,4],[0,1,2,3,4],[],[]]
 |19=>[[2,3,4,5,6],[2,3,4,5,6],[0,1,5,6],[0,1,5,6],[0,1,5,6],[0,1,2,3,4],[0,1,2,3,4],[],[]]
 |_=>[]
end Go.Am
end
section
namespace Go.Am
open Go Go.Proofs.Tryz
open Go.Proofs
set_option maxRecDepth 10000
abbrev zk:Nat->List Nat:=λ_=>[]
abbrev zg:Nat->List Gh:=λ_=>[]
abbrev zm:Nat->Bool:=λ_=>false
abbrev zf:aP:=⟨[],false,[],[],false⟩
abbrev zo:Nat->List (List Nat):=λ_=>[]
abbrev zl:Nat->List (Nat×Nat):=λ_=>[]
noncomputable def anp:List (Nat->List Nat):=[zk,zk,zk,zk,acS,zk,zk,zk,zk,zk,zk,zk,zk,zk,zk,zk,zk,WK,WL,WM,WN,WO,WQ,WR,WS,WT,WU,zk,zk,zk,zk,zk,zk,zk,zk,zk,zk,WV,zk,zk,zk,zk,zk,WW,WX,WY,WZ,W0,W1,W2,W3,W4,W5,W6,W7,W8,W9,Xa,Xb,Xc,Xd,Xe,Xf,Xg,Xh,Xi,zk,zk,zk,zk,zk,zk,zk,Xj,zk,Xk,zk,zk,zk,zk,zk,Xl,zk,Xm,Xn,Xo,Xp,Xq,Xr,Xs,Xt,Xu,Xv,Xw,Xx,Xy,Xz,XA,XB,XF,zk,zk,zk,zk,zk,zk,zk,zk,zk,zk,zk,zk,zk,zk,PI,PJ,zk,zk,zk,zk,zk,zk,zk,zk,PK,PL,zk,zk,zk,PN,PO,PQ,PT,PU,PV,PW,PX,PY,PZ,P0,P1,P2,P3,P4,P5,P6,P7,P8,P9,Qa,zk,zk,Qb,zk,zk,zk,zk,zk,zk,zk,zk,zk,zk,zk,Qc,Qd,Qe,Qf,Qg,zk,zk,zk,zk,zk,zk,zk,zk,zk,zk,zk,zk,zk,zk,zk,zk,zk,zk,zk,zk,zk,zk,zk,zk,Qi,Qj,Qk,zk,zk,zk,zk,Ql,Qm,Qn,Qo,Qp,Qq,Qr,Qs,Qt,Qu,Qv,Qw,Qx,Qy,Qz,QA,zk,zk,zk,zk,QB,QC,QD,zk,zk,zk,zk,zk,zk,zk,zk,zk,zk,zk,zk,zk,zk,zk,zk,zk,zk,zk,zk,zk,zk,zk,zk,zk,zk,zk,zk,zk,zk,zk,zk,zk,zk,zk,zk,zk,zk,zk,QE,QF,QG,QH,QI,QJ,QK,QL,QM,zk,zk,zk,zk,zk,zk,zk,zk,zk,zk,zk,zk,zk,zk,zk,zk,zk,zk,zk,zk,zk,zk,zk,zk,zk,zk,QN,QO,QP,QQ,QR,zk,zk,zk,zk,zk,zk,zk,zk,zk,zk,zk,zk,zk,zk,zk,zk,zk,zk,zk,zk,zk,zk,zk,zk,zk,zk,zk,zk,zk,zk,zk,zk,zk,zk,zk,zk,zk,zk,zk,zk,zk,zk,zk,zk,zk,zk,zk,zk,zk,zk,zk,zk,zk,zk,zk,zk,zk,zk,zk,zk,zk,zk]
noncomputable def ghL:List (Nat->List Gh):=[zg,zg,zg,zg,zg,zg,zg,zg,zg,zg,zg,zg,zg,zg,zg,zg,zg,zg,zg,zg,ahx,ahA,zg,ahE,zg,zg,zg,zg,zg,zg,zg,zg,zg,zg,zg,zg,zg,zg,zg,zg,zg,zg,zg,zg,zg,zg,zg,zg,zg,zg,ahL,zg,zg,zg,zg,zg,zg,zg,zg,zg,zg,zg,zg,zg,zg,zg,zg,zg,zg,zg,zg,zg,zg,zg,zg,zg,zg,zg,zg,zg,zg,ahV,zg,zg,zg,zg,zg,zg,zg,zg,zg,ahZ,zg,zg,zg,zg,zg,zg,zg,zg,zg,zg,zg,zg,zg,zg,zg,zg,zg,zg,zg,zg,zg,zg,zg,zg,zg,zg,zg,zg,zg,zg,zg,zg,zg,zg,zg,zg,zg,zg,zg,zg,zg,zg,zg,zg,zg,zg,zg,zg,zg,zg,zg,zg,zg,zg,zg,zg,zg,zg,zg,zg,zg,zg,zg,zg,zg,zg,zg,zg,zg,zg,zg,zg,zg,zg,zg,zg,zg,zg,zg,zg,zg,zg,zg,zg,zg,zg,zg,zg,zg,zg,zg,zg,zg,zg,zg,zg,zg,zg,zg,zg,zg,zg,zg,zg,zg,zg,zg,zg,zg,zg,zg,zg,zg,zg,zg,zg,zg,adh,zg,zg,zg,zg,zg,zg,zg,zg,zg,zg,zg,zg,zg,zg,zg,zg,zg,zg,zg,zg,zg,zg,zg,zg,zg,zg,zg,zg,zg,zg,zg,zg,zg,zg,zg,zg,zg,zg,zg,zg,zg,zg,zg,zg,zg,zg,zg,zg,zg,zg,zg,zg,zg,zg,zg,zg,zg,zg,zg,zg,zg,zg,zg,zg,zg,zg,zg,zg,zg,zg,zg,zg,zg,zg,zg,zg,zg,zg,zg,zg,zg,zg,zg,zg,zg,zg,zg,zg,zg,zg,zg,zg,zg,zg,zg,zg,zg,zg,zg,zg,zg,zg,zg,zg,zg,zg,zg,zg,zg,zg,zg,zg,zg,zg,zg,zg,zg,zg,zg,zg,zg,zg,zg,zg,zg,zg,zg,zg,zg,zg,zg,zg,zg,zg,zg,zg,zg,zg,zg,zg,zg,zg,zg,zg,zg,zg,zg,zg,zg,zg,zg,zg,zg,zg]
noncomputable def mdL:List (Nat->Bool):=[zm,zm,zm,zm,md4,zm,zm,zm,zm,zm,zm,zm,zm,zm,zm,zm,zm,zm,ahu,zm,zm,ahy,ahB,zm,ahF,zm,zm,zm,zm,zm,zm,zm,zm,zm,zm,zm,zm,zm,zm,zm,zm,zm,zm,zm,ahI,zm,ahJ,zm,zm,zm,zm,zm,zm,zm,ahN,ahO,zm,ahQ,zm,zm,zm,zm,ahS,zm,zm,zm,zm,zm,zm,zm,zm,zm,zm,zm,zm,zm,zm,zm,zm,zm,zm,zm,zm,zm,zm,zm,zm,ahX,zm,zm,zm,zm,zm,ah3,zm,ah4,ah5,zm,zm,zm,zm,zm,zm,zm,zm,zm,zm,zm,zm,zm,zm,zm,zm,zm,zm,zm,zm,zm,zm,zm,zm,zm,zm,zm,acU,zm,zm,zm,zm,zm,zm,zm,zm,zm,zm,zm,zm,zm,zm,zm,zm,zm,zm,zm,zm,ac2,ac3,zm,zm,zm,zm,zm,zm,zm,zm,zm,zm,zm,zm,zm,zm,zm,zm,zm,zm,zm,zm,ac7,zm,zm,zm,zm,zm,zm,zm,zm,zm,zm,zm,zm,zm,zm,zm,zm,zm,zm,zm,zm,zm,zm,zm,zm,zm,ada,zm,zm,zm,zm,zm,zm,adb,zm,zm,zm,zm,zm,zm,zm,zm,zm,zm,zm,zm,zm,zm,zm,zm,zm,zm,zm,zm,zm,zm,zm,zm,zm,zm,zm,zm,zm,zm,zm,zm,zm,zm,zm,zm,zm,zm,zm,zm,zm,zm,zm,zm,zm,zm,zm,zm,zm,zm,zm,zm,zm,zm,zm,zm,zm,zm,zm,zm,zm,zm,zm,zm,zm,zm,zm,zm,adn,adp,zm,zm,zm,zm,zm,zm,zm,zm,zm,zm,zm,zm,zm,zm,zm,zm,zm,zm,zm,zm,zm,zm,zm,zm,zm,zm,zm,zm,zm,zm,zm,zm,zm,zm,zm,zm,zm,zm,zm,zm,zm,zm,zm,zm,zm,zm,zm,zm,zm,zm,zm,zm,zm,zm,zm,zm,zm,zm,zm,zm,zm,zm,zm,zm,zm,zm,zm,zm,zm,zm,zm,zm,zm,zm,zm,zm,zm,zm,zm,zm,zm,zm,zm,zm,zm,zm,zm,zm,zm,zm,zm,zm,zm]
noncomputable def fpL:List (aP):=[zf,zf,zf,zf,fp4,zf,zf,zf,zf,zf,zf,zf,zf,zf,zf,zf,zf,aac,aad,aae,aaf,aag,ahC,aah,aai,aaj,aak,zf,zf,zf,zf,zf,zf,zf,zf,zf,zf,aal,zf,zf,zf,zf,zf,aam,aan,aao,aap,aaq,aar,aas,aat,aau,aav,aaw,aax,aay,aaz,aaA,aaB,aaC,aaD,aaE,aaF,aaG,aaH,aaI,zf,zf,zf,zf,zf,zf,zf,aaJ,zf,aaK,zf,zf,zf,zf,zf,aaL,zf,aaM,aaN,ahW,aaO,aaP,aaQ,aaR,aaS,aaT,aaU,aaV,aaW,aaX,aaY,aaZ,aa0,aa1,zf,zf,zf,zf,zf,zf,zf,zf,zf,zf,zf,zf,zf,zf,Tr,acT,zf,zf,zf,zf,zf,zf,zf,zf,Ts,Tt,zf,zf,zf,Tu,Tv,Tw,Ty,Tz,TA,TB,TC,TD,TE,TF,TG,TH,TI,TJ,TL,TM,TN,TO,TP,TQ,zf,zf,TR,zf,zf,zf,zf,zf,zf,zf,zf,zf,zf,zf,ac6,TS,TU,ac8,ac9,zf,zf,zf,zf,zf,zf,zf,zf,zf,zf,zf,zf,zf,zf,zf,zf,zf,zf,zf,zf,zf,zf,zf,zf,TV,TW,TX,zf,zf,zf,zf,TY,TZ,T0,T1,T4,T6,T7,T8,T9,Ua,Ub,Uc,Ud,Ue,Uf,Ug,zf,zf,zf,zf,adk,adl,adm,zf,zf,zf,zf,zf,zf,zf,zf,zf,zf,zf,zf,zf,zf,zf,zf,zf,zf,zf,zf,zf,zf,zf,zf,zf,zf,zf,zf,zf,zf,zf,zf,zf,zf,zf,zf,zf,zf,zf,Uh,Ui,Uj,Uk,Ul,Um,Un,ado,adq,zf,zf,zf,zf,zf,zf,zf,zf,zf,zf,zf,zf,zf,zf,zf,zf,zf,zf,zf,zf,zf,zf,zf,zf,zf,zf,Uo,Up,Uq,ads,adu,zf,zf,zf,zf,zf,zf,zf,zf,zf,zf,zf,zf,zf,zf,zf,zf,zf,zf,zf,zf,zf,zf,zf,zf,zf,zf,zf,zf,zf,zf,zf,zf,zf,zf,zf,zf,zf,zf,zf,zf,zf,zf,zf,zf,zf,zf,zf,zf,zf,zf,zf,zf,zf,zf,zf,zf,zf,zf,zf,zf,zf,zf]
noncomputable def odL:List (Nat->List (List Nat)):=[zo,zo,zo,zo,zo,od5,od6,zo,zo,zo,zo,atp,atq,atr,zo,ats,zo,zo,zo,ahv,ahw,ahz,zo,ahD,zo,ahG,ahH,zo,zo,zo,att,atu,zo,atv,zo,zo,zo,zo,zo,zo,zo,zo,atw,zo,zo,zo,ahK,zo,zo,zo,zo,zo,zo,ahM,zo,ahP,zo,ahR,zo,zo,zo,zo,zo,zo,zo,zo,zo,zo,atx,zo,aty,atz,zo,zo,zo,ahT,atA,zo,atB,atC,atD,ahU,zo,zo,zo,zo,zo,zo,zo,zo,zo,ahY,ah1,zo,zo,zo,zo,zo,zo,zo,amq,zo,zo,zo,zo,amr,zo,zo,ams,amt,zo,amu,zo,amv,zo,zo,zo,amw,amx,zo,zo,zo,amy,amz,zo,zo,amA,amB,zo,zo,acV,zo,acW,zo,acX,zo,acY,acZ,zo,ac0,zo,zo,ac1,zo,zo,zo,zo,zo,ac4,zo,zo,zo,ac5,amC,amD,zo,amE,amF,zo,zo,amG,zo,amH,amI,zo,zo,zo,zo,zo,zo,amJ,zo,zo,zo,zo,zo,amK,zo,amL,zo,amM,zo,zo,zo,zo,zo,amN,zo,amO,zo,amP,amQ,amR,zo,zo,zo,zo,zo,zo,amS,zo,zo,ade,zo,zo,zo,adf,zo,adg,zo,adi,adj,zo,zo,zo,zo,amT,zo,zo,zo,zo,zo,zo,amU,zo,zo,zo,amV,zo,zo,zo,zo,zo,zo,zo,zo,amW,zo,zo,zo,amX,zo,amY,zo,zo,zo,amZ,zo,zo,zo,zo,zo,am0,zo,zo,am1,zo,am2,zo,am3,zo,am4,zo,zo,zo,zo,zo,zo,zo,zo,zo,zo,am5,zo,zo,zo,zo,zo,am6,zo,zo,zo,zo,zo,am7,zo,zo,zo,zo,zo,am8,am9,zo,ana,anb,zo,zo,zo,zo,zo,adr,adt,zo,zo,zo,zo,zo,zo,zo,zo,anc,zo,zo,ane,anf,ang,zo,anh,zo,ani,anj,ank,zo,anl,zo,zo,zo,zo,zo,zo,zo,zo,anm,zo,zo,zo,ann,zo,zo,ano,zo,zo,zo,zo,zo,zo,zo,zo,zo,zo,zo,zo,zo,zo,zo,zo,zo,zo,zo,zo,zo,zo,zo,zo]
noncomputable def flL:List (Nat->List (Nat×Nat)):=[zl,zl,zl,zl,zl,zl,zl,zl,zl,zl,zl,zl,zl,zl,zl,zl,zl,zl,zl,zl,zl,zl,zl,zl,zl,zl,zl,zl,zl,zl,zl,zl,zl,zl,zl,zl,zl,zl,zl,zl,zl,zl,zl,zl,zl,zl,zl,zl,zl,zl,zl,zl,zl,zl,zl,zl,zl,zl,zl,zl,zl,zl,zl,zl,zl,zl,zl,zl,zl,zl,zl,zl,zl,zl,zl,zl,zl,zl,zl,zl,zl,zl,zl,zl,zl,zl,zl,zl,zl,zl,zl,ah0,ah2,zl,zl,zl,zl,zl,zl,zl,zl,zl,zl,zl,zl,zl,zl,zl,zl,zl,zl,zl,zl,zl,zl,zl,zl,zl,zl,zl,zl,zl,zl,zl,zl,zl,zl,zl,zl,zl,zl,zl,zl,zl,zl,zl,zl,zl,zl,zl,zl,zl,zl,zl,zl,zl,zl,zl,zl,zl,zl,zl,zl,zl,zl,zl,zl,zl,zl,zl,zl,zl,zl,zl,zl,zl,zl,zl,zl,zl,zl,zl,zl,zl,zl,zl,zl,zl,zl,zl,zl,zl,zl,zl,zl,zl,zl,zl,zl,zl,zl,zl,zl,zl,zl,zl,zl,zl,zl,zl,zl,zl,zl,zl,zl,zl,zl,zl,zl,zl,zl,zl,zl,zl,zl,zl,zl,zl,zl,zl,zl,zl,zl,zl,zl,zl,zl,zl,zl,zl,zl,zl,zl,zl,zl,zl,zl,zl,zl,zl,zl,zl,zl,zl,zl,zl,zl,zl,zl,zl,zl,zl,zl,zl,zl,zl,zl,zl,zl,zl,zl,zl,zl,zl,zl,zl,zl,zl,zl,zl,zl,zl,zl,zl,zl,zl,zl,zl,zl,zl,zl,zl,zl,zl,zl,zl,zl,zl,zl,zl,zl,zl,zl,zl,zl,zl,zl,zl,zl,zl,zl,zl,zl,zl,zl,zl,zl,zl,zl,zl,zl,zl,zl,zl,zl,zl,zl,zl,zl,zl,zl,zl,zl,zl,zl,zl,zl,zl,zl,zl,zl,zl,zl,zl,zl,zl,zl,zl,zl,zl,zl,zl,zl,zl,zl,zl,zl,zl,zl,zl,zl,zl,zl,zl,zl,zl,zl,zl,zl,zl,zl,zl,zl,zl]
def b9:Type:=Int
variable [Inhabited b9]
def Ii:List Int:=[0,0,0,0,0,0,0,0,0,1,1,1,1,1,0,0,0,0,0,0,0,0,0,0,0,0,0,0,0,0,0,0,1,0,0,0,0,0,0,0,0,0,0,0,0,0,0,0,0,0,0,0,0,0,0,0,0,0,0,0,0,0,0,0,0,0,0,0,0,0,0,0,0,0,0,0,0,0,0,0,0,0,0,0,0,0,0,0,0,0,0,0,0,0,0,0,0,0,0,0,0,0,0,0,0,0,0,0,0,0,0,0,0,0,0,0,0,0,0,0,0,0,0,0,0,0,0,0,0,0,0,0,0,0,0,0,0,0,0,0,0,0,0,0,0,0,0,0,0,0,0,0,0,0,0,0,0,0,0,0,0,0,0,0,0,0,0,0,0,0,0,0,0,0,0,0,0,0,0,0,0,0,0,0,0,0,0,0,0,0,0,0,0,0,0,0,0,0,0,0,0,0,0,0,0,0,0,0,0,0,0,0,0,0,0,0,0,0,0,0,0,0,0,0,0,0,0,0,0,0,0,0,0,0,0,0,0,0,0,0,0,0,0,0,0,0,0,0,0,0,0,0,0,0,0,0]
def aD:List (Nat×D):=[(0,.agg (Ii.map λz=>.int .u8 z)),(2,.int .i64 (id (α:=Int) (default:b9)))]
@[simp] theorem aA0:IH aD 0=some (.agg (Ii.map λz=>.int .u8 z)):=rfl
def aa2:FuncId->Option (List AV->Option AV)
 |_=>none
noncomputable def ctx:Ctx:=⟨Tryz.prog,aD,λf=>anp.getD f (λ_=>[]),λf=>ghL.getD f (λ_=>[]),λf=>mdL.getD f (λ_=>false),λf=>fpL.getD f ⟨[],false,[],[],false⟩,λf=>odL.getD f (λ_=>[]),aa2,λf=>flL.getD f (λ_=>[]),none⟩
@[simp] theorem aA1:ctx.P=Tryz.prog:=rfl
@[simp] theorem azb:ctx.gl=aD:=rfl
@[simp] def bg(fn:Func):Code:=fn.body.getD .skip
abbrev EF(n:Nat)(k:Nat->List Nat)(g:Nat->List Gh)(m:Nat->Bool)(p:aP)(l:Nat->List (Nat×Nat))(o:Nat->List (List Nat)):Prop:=ctx.sj n=k/\ctx.gh n=g/\ctx.md n=m/\ctx.fp n=p/\ctx.fl n=l/\ctx.od n=o
abbrev RF(n c:Nat)(p:aP)(fn:Func)(rs:List ResultVar):Prop:=∀{args:List AV}{cs:List aJ},GP c p args cs=true->ai ctx n args cs=aO ctx n (bg fn) (entry c aD args cs p.sites) (Ic Tryz.prog p cs.length rs)
@[simp] theorem E4:EF 4 acS zg md4 fp4 zl zo:=⟨rfl,rfl,rfl,rfl,rfl,rfl⟩
theorem atE:RF 4 84 fp4 f4 [.tmp 4]:=az rfl rfl Tryz.func4 rfl (by kernel_rfl) Tryz.ntmps4 (by rw[Tryz.results4]) rfl rfl
@[simp] theorem E17:EF 17 WK zg zm aac zl zo:=⟨rfl,rfl,rfl,rfl,rfl,rfl⟩
theorem anq:RF 17 18 aac f17 [.tmp 2]:=az rfl rfl Tryz.func17 rfl (by kernel_rfl) Tryz.ntmps17 (by rw[Tryz.results17]) rfl rfl
@[simp] theorem E18:EF 18 WL zg ahu aad zl zo:=⟨rfl,rfl,rfl,rfl,rfl,rfl⟩
theorem anr:RF 18 129 aad f18 [.tmp 2]:=az rfl rfl Tryz.func18 rfl (by kernel_rfl) Tryz.ntmps18 (by rw[Tryz.results18]) rfl rfl
@[simp] theorem E19:EF 19 WM zg zm aae zl ahv:=⟨rfl,rfl,rfl,rfl,rfl,rfl⟩
theorem ans:RF 19 58 aae f19 [.cell 2 29]:=az rfl rfl Tryz.func19 rfl (by kernel_rfl) Tryz.ntmps19 (by rw[Tryz.results19]) rfl rfl
@[simp] theorem E20:EF 20 WN ahx zm aaf zl ahw:=⟨rfl,rfl,rfl,rfl,rfl,rfl⟩
theorem ant:RF 20 51 aaf f20 [.cell 2 33,.tmp 3]:=az rfl rfl Tryz.func20 rfl (by kernel_rfl) Tryz.ntmps20 (by rw[Tryz.results20]) rfl rfl
@[simp] theorem E21:EF 21 WO ahA ahy aag zl ahz:=⟨rfl,rfl,rfl,rfl,rfl,rfl⟩
theorem anu:RF 21 22 aag f21 [.tmp 2]:=az rfl rfl Tryz.func21 rfl (by kernel_rfl) Tryz.ntmps21 (by rw[Tryz.results21]) rfl rfl
@[simp] theorem E22:EF 22 WQ zg ahB ahC zl zo:=⟨rfl,rfl,rfl,rfl,rfl,rfl⟩
@[simp] theorem E23:EF 23 WR ahE zm aah zl ahD:=⟨rfl,rfl,rfl,rfl,rfl,rfl⟩
theorem adv:RF 23 74 aah f23 [.cell 2 33,.tmp 3]:=az rfl rfl Tryz.func23 rfl (by kernel_rfl) Tryz.ntmps23 (by rw[Tryz.results23]) rfl rfl
@[simp] theorem E24:EF 24 WS zg ahF aai zl zo:=⟨rfl,rfl,rfl,rfl,rfl,rfl⟩
theorem anv:RF 24 53 aai f24 [.tmp 2,.tmp 3]:=az rfl rfl Tryz.func24 rfl (by kernel_rfl) Tryz.ntmps24 (by rw[Tryz.results24]) rfl rfl
@[simp] theorem E25:EF 25 WT zg zm aaj zl ahG:=⟨rfl,rfl,rfl,rfl,rfl,rfl⟩
theorem anw:RF 25 26 aaj f25 [.tmp 4]:=az rfl rfl Tryz.func25 rfl (by kernel_rfl) Tryz.ntmps25 (by rw[Tryz.results25]) rfl rfl
@[simp] theorem E26:EF 26 WU zg zm aak zl ahH:=⟨rfl,rfl,rfl,rfl,rfl,rfl⟩
theorem anx:RF 26 45 aak f26 [.tmp 4]:=az rfl rfl Tryz.func26 rfl (by kernel_rfl) Tryz.ntmps26 (by rw[Tryz.results26]) rfl rfl
@[simp] theorem E37:EF 37 WV zg zm aal zl zo:=⟨rfl,rfl,rfl,rfl,rfl,rfl⟩
theorem anz:RF 37 8 aal f37 [.cell 2 25]:=az rfl rfl Tryz.func37 rfl (by kernel_rfl) Tryz.ntmps37 (by rw[Tryz.results37]) rfl rfl
@[simp] theorem E43:EF 43 WW zg zm aam zl zo:=⟨rfl,rfl,rfl,rfl,rfl,rfl⟩
theorem anA:RF 43 21 aam f43 [.tmp 4,.tmp 5]:=az rfl rfl Tryz.func43 rfl (by kernel_rfl) Tryz.ntmps43 (by rw[Tryz.results43]) rfl rfl
@[simp] theorem E44:EF 44 WX zg ahI aan zl zo:=⟨rfl,rfl,rfl,rfl,rfl,rfl⟩
theorem anB:RF 44 59 aan f44 [.tmp 2]:=az rfl rfl Tryz.func44 rfl (by kernel_rfl) Tryz.ntmps44 (by rw[Tryz.results44]) rfl rfl
@[simp] theorem E45:EF 45 WY zg zm aao zl zo:=⟨rfl,rfl,rfl,rfl,rfl,rfl⟩
theorem anC:RF 45 24 aao f45 [.tmp 2]:=az rfl rfl Tryz.func45 rfl (by kernel_rfl) Tryz.ntmps45 (by rw[Tryz.results45]) rfl rfl
@[simp] theorem E46:EF 46 WZ zg ahJ aap zl ahK:=⟨rfl,rfl,rfl,rfl,rfl,rfl⟩
theorem anD:RF 46 258 aap f46 [.tmp 2]:=az rfl rfl Tryz.func46 rfl (by kernel_rfl) Tryz.ntmps46 (by rw[Tryz.results46]) rfl rfl
@[simp] theorem E47:EF 47 W0 zg zm aaq zl zo:=⟨rfl,rfl,rfl,rfl,rfl,rfl⟩
theorem anE:RF 47 25 aaq f47 [.cell 4 71,.tmp 5]:=az rfl rfl Tryz.func47 rfl (by kernel_rfl) Tryz.ntmps47 (by rw[Tryz.results47]) rfl rfl
@[simp] theorem E48:EF 48 W1 zg zm aar zl zo:=⟨rfl,rfl,rfl,rfl,rfl,rfl⟩
theorem anF:RF 48 18 aar f48 [.tmp 2]:=az rfl rfl Tryz.func48 rfl (by kernel_rfl) Tryz.ntmps48 (by rw[Tryz.results48]) rfl rfl
@[simp] theorem E49:EF 49 W2 zg zm aas zl zo:=⟨rfl,rfl,rfl,rfl,rfl,rfl⟩
theorem anG:RF 49 27 aas f49 [.cell 6 29]:=az rfl rfl Tryz.func49 rfl (by kernel_rfl) Tryz.ntmps49 (by rw[Tryz.results49]) rfl rfl
@[simp] theorem E50:EF 50 W3 ahL zm aat zl zo:=⟨rfl,rfl,rfl,rfl,rfl,rfl⟩
theorem anH:RF 50 51 aat f50 [.cell 2 79]:=az rfl rfl Tryz.func50 rfl (by kernel_rfl) Tryz.ntmps50 (by rw[Tryz.results50]) rfl rfl
@[simp] theorem E51:EF 51 W4 zg zm aau zl zo:=⟨rfl,rfl,rfl,rfl,rfl,rfl⟩
theorem anI:RF 51 16 aau f51 []:=az rfl rfl Tryz.func51 rfl (by kernel_rfl) Tryz.ntmps51 (by rw[Tryz.results51]) rfl rfl
@[simp] theorem E52:EF 52 W5 zg zm aav zl zo:=⟨rfl,rfl,rfl,rfl,rfl,rfl⟩
theorem adw:RF 52 16 aav f52 []:=az rfl rfl Tryz.func52 rfl (by kernel_rfl) Tryz.ntmps52 (by rw[Tryz.results52]) rfl rfl
@[simp] theorem E53:EF 53 W6 zg zm aaw zl ahM:=⟨rfl,rfl,rfl,rfl,rfl,rfl⟩
theorem Ur:RF 53 43 aaw f53 [.tmp 6]:=az rfl rfl Tryz.func53 rfl (by kernel_rfl) Tryz.ntmps53 (by rw[Tryz.results53]) rfl rfl
@[simp] theorem E54:EF 54 W7 zg ahN aax zl zo:=⟨rfl,rfl,rfl,rfl,rfl,rfl⟩
theorem anJ:RF 54 66 aax f54 [.tmp 2]:=az rfl rfl Tryz.func54 rfl (by kernel_rfl) Tryz.ntmps54 (by rw[Tryz.results54]) rfl rfl
@[simp] theorem E55:EF 55 W8 zg ahO aay zl ahP:=⟨rfl,rfl,rfl,rfl,rfl,rfl⟩
theorem anK:RF 55 63 aay f55 [.tmp 2]:=az rfl rfl Tryz.func55 rfl (by kernel_rfl) Tryz.ntmps55 (by rw[Tryz.results55]) rfl rfl
@[simp] theorem E56:EF 56 W9 zg zm aaz zl zo:=⟨rfl,rfl,rfl,rfl,rfl,rfl⟩
theorem anL:RF 56 26 aaz f56 [.tmp 2]:=az rfl rfl Tryz.func56 rfl (by kernel_rfl) Tryz.ntmps56 (by rw[Tryz.results56]) rfl rfl
@[simp] theorem E57:EF 57 Xa zg ahQ aaA zl ahR:=⟨rfl,rfl,rfl,rfl,rfl,rfl⟩
theorem anM:RF 57 47 aaA f57 [.tmp 2,.tmp 3]:=az rfl rfl Tryz.func57 rfl (by kernel_rfl) Tryz.ntmps57 (by rw[Tryz.results57]) rfl rfl
@[simp] theorem E58:EF 58 Xb zg zm aaB zl zo:=⟨rfl,rfl,rfl,rfl,rfl,rfl⟩
theorem Us:RF 58 57 aaB f58 [.tmp 4]:=az rfl rfl Tryz.func58 rfl (by kernel_rfl) Tryz.ntmps58 (by rw[Tryz.results58]) rfl rfl
@[simp] theorem E59:EF 59 Xc zg zm aaC zl zo:=⟨rfl,rfl,rfl,rfl,rfl,rfl⟩
theorem anN:RF 59 55 aaC f59 [.cell 2 56]:=az rfl rfl Tryz.func59 rfl (by kernel_rfl) Tryz.ntmps59 (by rw[Tryz.results59]) rfl rfl
@[simp] theorem E60:EF 60 Xd zg zm aaD zl zo:=⟨rfl,rfl,rfl,rfl,rfl,rfl⟩
theorem anO:RF 60 9 aaD f60 [.tmp 4]:=az rfl rfl Tryz.func60 rfl (by kernel_rfl) Tryz.ntmps60 (by rw[Tryz.results60]) rfl rfl
@[simp] theorem E61:EF 61 Xe zg zm aaE zl zo:=⟨rfl,rfl,rfl,rfl,rfl,rfl⟩
theorem anP:RF 61 6 aaE f61 [.tmp 2]:=az rfl rfl Tryz.func61 rfl (by kernel_rfl) Tryz.ntmps61 (by rw[Tryz.results61]) rfl rfl
@[simp] theorem E62:EF 62 Xf zg ahS aaF zl zo:=⟨rfl,rfl,rfl,rfl,rfl,rfl⟩
theorem anQ:RF 62 50 aaF f62 [.tmp 2]:=az rfl rfl Tryz.func62 rfl (by kernel_rfl) Tryz.ntmps62 (by rw[Tryz.results62]) rfl rfl
@[simp] theorem E63:EF 63 Xg zg zm aaG zl zo:=⟨rfl,rfl,rfl,rfl,rfl,rfl⟩
theorem anR:RF 63 24 aaG f63 [.tmp 6]:=az rfl rfl Tryz.func63 rfl (by kernel_rfl) Tryz.ntmps63 (by rw[Tryz.results63]) rfl rfl
@[simp] theorem E64:EF 64 Xh zg zm aaH zl zo:=⟨rfl,rfl,rfl,rfl,rfl,rfl⟩
theorem anS:RF 64 50 aaH f64 [.tmp 4]:=az rfl rfl Tryz.func64 rfl (by kernel_rfl) Tryz.ntmps64 (by rw[Tryz.results64]) rfl rfl
@[simp] theorem E65:EF 65 Xi zg zm aaI zl zo:=⟨rfl,rfl,rfl,rfl,rfl,rfl⟩
theorem anT:RF 65 5 aaI f65 [.tmp 2]:=az rfl rfl Tryz.func65 rfl (by kernel_rfl) Tryz.ntmps65 (by rw[Tryz.results65]) rfl rfl
@[simp] theorem E73:EF 73 Xj zg zm aaJ zl zo:=⟨rfl,rfl,rfl,rfl,rfl,rfl⟩
theorem anU:RF 73 77 aaJ f73 [.tmp 2]:=az rfl rfl Tryz.func73 rfl (by kernel_rfl) Tryz.ntmps73 (by rw[Tryz.results73]) rfl rfl
@[simp] theorem E75:EF 75 Xk zg zm aaK zl ahT:=⟨rfl,rfl,rfl,rfl,rfl,rfl⟩
theorem adx:RF 75 30 aaK f75 [.tmp 2]:=az rfl rfl Tryz.func75 rfl (by kernel_rfl) Tryz.ntmps75 (by rw[Tryz.results75]) rfl rfl
@[simp] theorem E81:EF 81 Xl ahV zm aaL zl ahU:=⟨rfl,rfl,rfl,rfl,rfl,rfl⟩
theorem anV:RF 81 48 aaL f81 [.tmp 2]:=az rfl rfl Tryz.func81 rfl (by kernel_rfl) Tryz.ntmps81 (by rw[Tryz.results81]) rfl rfl
@[simp] theorem E83:EF 83 Xm zg zm aaM zl zo:=⟨rfl,rfl,rfl,rfl,rfl,rfl⟩
theorem anW:RF 83 136 aaM f83 [.tmp 4,.tmp 5]:=az rfl rfl Tryz.func83 rfl (by kernel_rfl) Tryz.ntmps83 (by rw[Tryz.results83]) rfl rfl
@[simp] theorem E84:EF 84 Xn zg zm aaN zl zo:=⟨rfl,rfl,rfl,rfl,rfl,rfl⟩
theorem anX:RF 84 15 aaN f84 [.tmp 2]:=az rfl rfl Tryz.func84 rfl (by kernel_rfl) Tryz.ntmps84 (by rw[Tryz.results84]) rfl rfl
@[simp] theorem E85:EF 85 Xo zg zm ahW zl zo:=⟨rfl,rfl,rfl,rfl,rfl,rfl⟩
@[simp] theorem E86:EF 86 Xp zg zm aaO zl zo:=⟨rfl,rfl,rfl,rfl,rfl,rfl⟩
theorem anY:RF 86 27 aaO f86 [.tmp 2,.tmp 3,.tmp 4]:=az rfl rfl Tryz.func86 rfl (by kernel_rfl) Tryz.ntmps86 (by rw[Tryz.results86]) rfl rfl
@[simp] theorem E87:EF 87 Xq zg ahX aaP zl zo:=⟨rfl,rfl,rfl,rfl,rfl,rfl⟩
theorem anZ:RF 87 126 aaP f87 [.tmp 2]:=az rfl rfl Tryz.func87 rfl (by kernel_rfl) Tryz.ntmps87 (by rw[Tryz.results87]) rfl rfl
@[simp] theorem E88:EF 88 Xr zg zm aaQ zl zo:=⟨rfl,rfl,rfl,rfl,rfl,rfl⟩
theorem an0:RF 88 25 aaQ f88 [.tmp 2]:=az rfl rfl Tryz.func88 rfl (by kernel_rfl) Tryz.ntmps88 (by rw[Tryz.results88]) rfl rfl
@[simp] theorem E89:EF 89 Xs zg zm aaR zl zo:=⟨rfl,rfl,rfl,rfl,rfl,rfl⟩
theorem pe:RF 89 242 aaR f89 [.cell 6 29]:=az rfl rfl Tryz.func89 rfl (by kernel_rfl) Tryz.ntmps89 (by rw[Tryz.results89]) rfl rfl
@[simp] theorem E90:EF 90 Xt zg zm aaS zl zo:=⟨rfl,rfl,rfl,rfl,rfl,rfl⟩
theorem an1:RF 90 20 aaS f90 [.tmp 2]:=az rfl rfl Tryz.func90 rfl (by kernel_rfl) Tryz.ntmps90 (by rw[Tryz.results90]) rfl rfl
@[simp] theorem E91:EF 91 Xu ahZ zm aaT ah0 ahY:=⟨rfl,rfl,rfl,rfl,rfl,rfl⟩
theorem xB:RF 91 83 aaT f91 []:=az rfl rfl Tryz.func91 rfl (by kernel_rfl) Tryz.ntmps91 (by rw[Tryz.results91]) rfl rfl
@[simp] theorem E92:EF 92 Xv zg zm aaU ah2 ah1:=⟨rfl,rfl,rfl,rfl,rfl,rfl⟩
theorem an2:RF 92 13 aaU f92 []:=az rfl rfl Tryz.func92 rfl (by kernel_rfl) Tryz.ntmps92 (by rw[Tryz.results92]) rfl rfl
@[simp] theorem E93:EF 93 Xw zg ah3 aaV zl zo:=⟨rfl,rfl,rfl,rfl,rfl,rfl⟩
theorem an3:RF 93 85 aaV f93 [.tmp 6]:=az rfl rfl Tryz.func93 rfl (by kernel_rfl) Tryz.ntmps93 (by rw[Tryz.results93]) rfl rfl
@[simp] theorem E94:EF 94 Xx zg zm aaW zl zo:=⟨rfl,rfl,rfl,rfl,rfl,rfl⟩
theorem an4:RF 94 9 aaW f94 [.tmp 2]:=az rfl rfl Tryz.func94 rfl (by kernel_rfl) Tryz.ntmps94 (by rw[Tryz.results94]) rfl rfl
@[simp] theorem E95:EF 95 Xy zg ah4 aaX zl zo:=⟨rfl,rfl,rfl,rfl,rfl,rfl⟩
theorem an5:RF 95 92 aaX f95 [.tmp 4]:=az rfl rfl Tryz.func95 rfl (by kernel_rfl) Tryz.ntmps95 (by rw[Tryz.results95]) rfl rfl
@[simp] theorem E96:EF 96 Xz zg ah5 aaY zl zo:=⟨rfl,rfl,rfl,rfl,rfl,rfl⟩
theorem an6:RF 96 67 aaY f96 [.tmp 6]:=az rfl rfl Tryz.func96 rfl (by kernel_rfl) Tryz.ntmps96 (by rw[Tryz.results96]) rfl rfl
@[simp] theorem E97:EF 97 XA zg zm aaZ zl zo:=⟨rfl,rfl,rfl,rfl,rfl,rfl⟩
theorem an7:RF 97 28 aaZ f97 [.tmp 2,.tmp 3,.tmp 4,.tmp 5,.tmp 6]:=az rfl rfl Tryz.func97 rfl (by kernel_rfl) Tryz.ntmps97 (by rw[Tryz.results97]) rfl rfl
@[simp] theorem E98:EF 98 XB zg zm aa0 zl zo:=⟨rfl,rfl,rfl,rfl,rfl,rfl⟩
theorem an8:RF 98 19 aa0 f98 [.tmp 4]:=az rfl rfl Tryz.func98 rfl (by kernel_rfl) Tryz.ntmps98 (by rw[Tryz.results98]) rfl rfl
@[simp] theorem E99:EF 99 XF zg zm aa1 zl zo:=⟨rfl,rfl,rfl,rfl,rfl,rfl⟩
theorem an9:RF 99 31 aa1 f99 [.tmp 4]:=az rfl rfl Tryz.func99 rfl (by kernel_rfl) Tryz.ntmps99 (by rw[Tryz.results99]) rfl rfl
@[simp] theorem aBp:EF 114 PI zg zm Tr zl zo:=⟨rfl,rfl,rfl,rfl,rfl,rfl⟩
theorem XG:RF 114 17 Tr f114 [.cell 2 178,.tmp 3]:=az rfl rfl Tryz.func114 rfl (by kernel_rfl) Tryz.ntmps114 (by rw[Tryz.results114]) rfl rfl
@[simp] theorem aBq:EF 115 PJ zg zm acT zl zo:=⟨rfl,rfl,rfl,rfl,rfl,rfl⟩
@[simp] theorem aBr:EF 124 PK zg acU Ts zl zo:=⟨rfl,rfl,rfl,rfl,rfl,rfl⟩
theorem ah6:RF 124 105 Ts f124 [.cell 2 136]:=az rfl rfl Tryz.func124 rfl (by kernel_rfl) Tryz.ntmps124 (by rw[Tryz.results124]) rfl rfl
@[simp] theorem aBs:EF 125 PL zg zm Tt zl zo:=⟨rfl,rfl,rfl,rfl,rfl,rfl⟩
theorem ah7:RF 125 19 Tt f125 [.tmp 2]:=az rfl rfl Tryz.func125 rfl (by kernel_rfl) Tryz.ntmps125 (by rw[Tryz.results125]) rfl rfl
@[simp] theorem aBt:EF 129 PN zg zm Tu zl zo:=⟨rfl,rfl,rfl,rfl,rfl,rfl⟩
theorem ah8:RF 129 44 Tu f129 [.tmp 4,.tmp 5]:=az rfl rfl Tryz.func129 rfl (by kernel_rfl) Tryz.ntmps129 (by rw[Tryz.results129]) rfl rfl
@[simp] theorem aBu:EF 130 PO zg zm Tv zl acV:=⟨rfl,rfl,rfl,rfl,rfl,rfl⟩
theorem fC:RF 130 155 Tv f130 [.tmp 4,.cell 5 29]:=az rfl rfl Tryz.func130 rfl (by kernel_rfl) Tryz.ntmps130 (by rw[Tryz.results130]) rfl rfl
@[simp] theorem aBv:EF 131 PQ zg zm Tw zl zo:=⟨rfl,rfl,rfl,rfl,rfl,rfl⟩
theorem ah9:RF 131 27 Tw f131 [.cell 6 29]:=az rfl rfl Tryz.func131 rfl (by kernel_rfl) Tryz.ntmps131 (by rw[Tryz.results131]) rfl rfl
@[simp] theorem aBw:EF 132 PT zg zm Ty zl acW:=⟨rfl,rfl,rfl,rfl,rfl,rfl⟩
theorem aia:RF 132 91 Ty f132 [.cell 4 29]:=az rfl rfl Tryz.func132 rfl (by kernel_rfl) Tryz.ntmps132 (by rw[Tryz.results132]) rfl rfl
@[simp] theorem aBx:EF 133 PU zg zm Tz zl zo:=⟨rfl,rfl,rfl,rfl,rfl,rfl⟩
theorem aib:RF 133 5 Tz f133 []:=az rfl rfl Tryz.func133 rfl (by kernel_rfl) Tryz.ntmps133 (by rw[Tryz.results133]) rfl rfl
@[simp] theorem aBy:EF 134 PV zg zm TA zl acX:=⟨rfl,rfl,rfl,rfl,rfl,rfl⟩
theorem XH:RF 134 49 TA f134 []:=az rfl rfl Tryz.func134 rfl (by kernel_rfl) Tryz.ntmps134 (by rw[Tryz.results134]) rfl rfl
@[simp] theorem aBz:EF 135 PW zg zm TB zl zo:=⟨rfl,rfl,rfl,rfl,rfl,rfl⟩
theorem XI:RF 135 49 TB f135 []:=az rfl rfl Tryz.func135 rfl (by kernel_rfl) Tryz.ntmps135 (by rw[Tryz.results135]) rfl rfl
@[simp] theorem aBA:EF 136 PX zg zm TC zl acY:=⟨rfl,rfl,rfl,rfl,rfl,rfl⟩
theorem aic:RF 136 11 TC f136 []:=az rfl rfl Tryz.func136 rfl (by kernel_rfl) Tryz.ntmps136 (by rw[Tryz.results136]) rfl rfl
@[simp] theorem aBB:EF 137 PY zg zm TD zl acZ:=⟨rfl,rfl,rfl,rfl,rfl,rfl⟩
theorem wq:RF 137 141 TD f137 [.tmp 4]:=az rfl rfl Tryz.func137 rfl (by kernel_rfl) Tryz.ntmps137 (by rw[Tryz.results137]) rfl rfl
@[simp] theorem aBC:EF 138 PZ zg zm TE zl zo:=⟨rfl,rfl,rfl,rfl,rfl,rfl⟩
theorem aid:RF 138 22 TE f138 []:=az rfl rfl Tryz.func138 rfl (by kernel_rfl) Tryz.ntmps138 (by rw[Tryz.results138]) rfl rfl
@[simp] theorem aBD:EF 139 P0 zg zm TF zl ac0:=⟨rfl,rfl,rfl,rfl,rfl,rfl⟩
theorem aie:RF 139 47 TF f139 []:=az rfl rfl Tryz.func139 rfl (by kernel_rfl) Tryz.ntmps139 (by rw[Tryz.results139]) rfl rfl
@[simp] theorem aBE:EF 140 P1 zg zm TG zl zo:=⟨rfl,rfl,rfl,rfl,rfl,rfl⟩
theorem XJ:RF 140 7 TG f140 []:=az rfl rfl Tryz.func140 rfl (by kernel_rfl) Tryz.ntmps140 (by rw[Tryz.results140]) rfl rfl
@[simp] theorem aBF:EF 141 P2 zg zm TH zl zo:=⟨rfl,rfl,rfl,rfl,rfl,rfl⟩
theorem ME:RF 141 9 TH f141 [.tmp 4]:=az rfl rfl Tryz.func141 rfl (by kernel_rfl) Tryz.ntmps141 (by rw[Tryz.results141]) rfl rfl
@[simp] theorem aBG:EF 142 P3 zg zm TI zl ac1:=⟨rfl,rfl,rfl,rfl,rfl,rfl⟩
theorem aif:RF 142 60 TI f142 []:=az rfl rfl Tryz.func142 rfl (by kernel_rfl) Tryz.ntmps142 (by rw[Tryz.results142]) rfl rfl
@[simp] theorem aBH:EF 143 P4 zg zm TJ zl zo:=⟨rfl,rfl,rfl,rfl,rfl,rfl⟩
theorem aih:RF 143 8 TJ f143 [.tmp 2]:=az rfl rfl Tryz.func143 rfl (by kernel_rfl) Tryz.ntmps143 (by rw[Tryz.results143]) rfl rfl
@[simp] theorem aBI:EF 144 P5 zg zm TL zl zo:=⟨rfl,rfl,rfl,rfl,rfl,rfl⟩
theorem aii:RF 144 33 TL f144 [.tmp 6]:=az rfl rfl Tryz.func144 rfl (by kernel_rfl) Tryz.ntmps144 (by rw[Tryz.results144]) rfl rfl
@[simp] theorem aBJ:EF 145 P6 zg ac2 TM zl zo:=⟨rfl,rfl,rfl,rfl,rfl,rfl⟩
theorem aij:RF 145 32 TM f145 [.tmp 4]:=az rfl rfl Tryz.func145 rfl (by kernel_rfl) Tryz.ntmps145 (by rw[Tryz.results145]) rfl rfl
@[simp] theorem aBK:EF 146 P7 zg ac3 TN zl zo:=⟨rfl,rfl,rfl,rfl,rfl,rfl⟩
theorem aik:RF 146 47 TN f146 [.tmp 2]:=az rfl rfl Tryz.func146 rfl (by kernel_rfl) Tryz.ntmps146 (by rw[Tryz.results146]) rfl rfl
@[simp] theorem aBL:EF 147 P8 zg zm TO zl zo:=⟨rfl,rfl,rfl,rfl,rfl,rfl⟩
theorem ail:RF 147 21 TO f147 [.tmp 4]:=az rfl rfl Tryz.func147 rfl (by kernel_rfl) Tryz.ntmps147 (by rw[Tryz.results147]) rfl rfl
@[simp] theorem aBM:EF 148 P9 zg zm TP zl ac4:=⟨rfl,rfl,rfl,rfl,rfl,rfl⟩
theorem aim:RF 148 54 TP f148 [.tmp 6]:=az rfl rfl Tryz.func148 rfl (by kernel_rfl) Tryz.ntmps148 (by rw[Tryz.results148]) rfl rfl
@[simp] theorem aBN:EF 149 Qa zg zm TQ zl zo:=⟨rfl,rfl,rfl,rfl,rfl,rfl⟩
theorem ain:RF 149 24 TQ f149 [.tmp 4]:=az rfl rfl Tryz.func149 rfl (by kernel_rfl) Tryz.ntmps149 (by rw[Tryz.results149]) rfl rfl
@[simp] theorem aBO:EF 152 Qb zg zm TR zl ac5:=⟨rfl,rfl,rfl,rfl,rfl,rfl⟩
theorem XK:RF 152 93 TR f152 [.tmp 6,.tmp 7,.tmp 8]:=az rfl rfl Tryz.func152 rfl (by kernel_rfl) Tryz.ntmps152 (by rw[Tryz.results152]) rfl rfl
@[simp] theorem aBP:EF 164 Qc zg zm ac6 zl zo:=⟨rfl,rfl,rfl,rfl,rfl,rfl⟩
@[simp] theorem aBQ:EF 165 Qd zg zm TS zl zo:=⟨rfl,rfl,rfl,rfl,rfl,rfl⟩
theorem XL:RF 165 19 TS f165 [.tmp 4]:=az rfl rfl Tryz.func165 rfl (by kernel_rfl) Tryz.ntmps165 (by rw[Tryz.results165]) rfl rfl
@[simp] theorem aBR:EF 166 Qe zg zm TU zl zo:=⟨rfl,rfl,rfl,rfl,rfl,rfl⟩
theorem XM:RF 166 8 TU f166 [.tmp 3]:=az rfl rfl Tryz.func166 rfl (by kernel_rfl) Tryz.ntmps166 (by rw[Tryz.results166]) rfl rfl
@[simp] theorem aBS:EF 167 Qf zg ac7 ac8 zl zo:=⟨rfl,rfl,rfl,rfl,rfl,rfl⟩
@[simp] theorem aBT:EF 168 Qg zg zm ac9 zl zo:=⟨rfl,rfl,rfl,rfl,rfl,rfl⟩
@[simp] theorem aBU:EF 193 Qi zg ada TV zl zo:=⟨rfl,rfl,rfl,rfl,rfl,rfl⟩
theorem aio:RF 193 41 TV f193 [.tmp 2,.tmp 3,.tmp 4]:=az rfl rfl Tryz.func193 rfl (by kernel_rfl) Tryz.ntmps193 (by rw[Tryz.results193]) rfl rfl
@[simp] theorem aBV:EF 194 Qj zg zm TW zl zo:=⟨rfl,rfl,rfl,rfl,rfl,rfl⟩
theorem aip:RF 194 4 TW f194 [.tmp 2]:=az rfl rfl Tryz.func194 rfl (by kernel_rfl) Tryz.ntmps194 (by rw[Tryz.results194]) rfl rfl
@[simp] theorem aBW:EF 195 Qk zg zm TX zl zo:=⟨rfl,rfl,rfl,rfl,rfl,rfl⟩
theorem aiq:RF 195 25 TX f195 [.cell 6 136]:=az rfl rfl Tryz.func195 rfl (by kernel_rfl) Tryz.ntmps195 (by rw[Tryz.results195]) rfl rfl
@[simp] theorem aBX:EF 200 Ql zg adb TY zl zo:=⟨rfl,rfl,rfl,rfl,rfl,rfl⟩
theorem air:RF 200 32 TY f200 [.cell 4 175,.tmp 5]:=az rfl rfl Tryz.func200 rfl (by kernel_rfl) Tryz.ntmps200 (by rw[Tryz.results200]) rfl rfl
@[simp] theorem aBY:EF 201 Qm zg zm TZ zl zo:=⟨rfl,rfl,rfl,rfl,rfl,rfl⟩
theorem ais:RF 201 24 TZ f201 [.cell 4 29]:=az rfl rfl Tryz.func201 rfl (by kernel_rfl) Tryz.ntmps201 (by rw[Tryz.results201]) rfl rfl
@[simp] theorem aBZ:EF 202 Qn zg zm T0 zl ade:=⟨rfl,rfl,rfl,rfl,rfl,rfl⟩
theorem ait:RF 202 29 T0 f202 [.tmp 4,.cell 5 71,.tmp 6]:=az rfl rfl Tryz.func202 rfl (by kernel_rfl) Tryz.ntmps202 (by rw[Tryz.results202]) rfl rfl
@[simp] theorem aB0:EF 203 Qo zg zm T1 zl zo:=⟨rfl,rfl,rfl,rfl,rfl,rfl⟩
theorem aiu:RF 203 8 T1 f203 []:=az rfl rfl Tryz.func203 rfl (by kernel_rfl) Tryz.ntmps203 (by rw[Tryz.results203]) rfl rfl
@[simp] theorem aB1:EF 204 Qp zg zm T4 zl zo:=⟨rfl,rfl,rfl,rfl,rfl,rfl⟩
theorem aiv:RF 204 9 T4 f204 [.tmp 4]:=az rfl rfl Tryz.func204 rfl (by kernel_rfl) Tryz.ntmps204 (by rw[Tryz.results204]) rfl rfl
@[simp] theorem aB2:EF 205 Qq zg zm T6 zl zo:=⟨rfl,rfl,rfl,rfl,rfl,rfl⟩
theorem aiw:RF 205 14 T6 f205 []:=az rfl rfl Tryz.func205 rfl (by kernel_rfl) Tryz.ntmps205 (by rw[Tryz.results205]) rfl rfl
@[simp] theorem aB3:EF 206 Qr zg zm T7 zl adf:=⟨rfl,rfl,rfl,rfl,rfl,rfl⟩
theorem aix:RF 206 49 T7 f206 [.tmp 6,.cell 7 175,.tmp 8]:=az rfl rfl Tryz.func206 rfl (by kernel_rfl) Tryz.ntmps206 (by rw[Tryz.results206]) rfl rfl
@[simp] theorem aB4:EF 207 Qs zg zm T8 zl zo:=⟨rfl,rfl,rfl,rfl,rfl,rfl⟩
theorem aiy:RF 207 19 T8 f207 [.tmp 4]:=az rfl rfl Tryz.func207 rfl (by kernel_rfl) Tryz.ntmps207 (by rw[Tryz.results207]) rfl rfl
@[simp] theorem aB5:EF 208 Qt zg zm T9 zl adg:=⟨rfl,rfl,rfl,rfl,rfl,rfl⟩
theorem aiz:RF 208 38 T9 f208 []:=az rfl rfl Tryz.func208 rfl (by kernel_rfl) Tryz.ntmps208 (by rw[Tryz.results208]) rfl rfl
@[simp] theorem aB6:EF 209 Qu adh zm Ua zl zo:=⟨rfl,rfl,rfl,rfl,rfl,rfl⟩
theorem XN:RF 209 42 Ua f209 []:=az rfl rfl Tryz.func209 rfl (by kernel_rfl) Tryz.ntmps209 (by rw[Tryz.results209]) rfl rfl
@[simp] theorem aB7:EF 210 Qv zg zm Ub zl adi:=⟨rfl,rfl,rfl,rfl,rfl,rfl⟩
theorem aiA:RF 210 42 Ub f210 []:=az rfl rfl Tryz.func210 rfl (by kernel_rfl) Tryz.ntmps210 (by rw[Tryz.results210]) rfl rfl
@[simp] theorem aB8:EF 211 Qw zg zm Uc zl adj:=⟨rfl,rfl,rfl,rfl,rfl,rfl⟩
theorem XO:RF 211 44 Uc f211 []:=az rfl rfl Tryz.func211 rfl (by kernel_rfl) Tryz.ntmps211 (by rw[Tryz.results211]) rfl rfl
@[simp] theorem aB9:EF 212 Qx zg zm Ud zl zo:=⟨rfl,rfl,rfl,rfl,rfl,rfl⟩
theorem aiB:RF 212 34 Ud f212 [.tmp 6,.tmp 7,.tmp 8]:=az rfl rfl Tryz.func212 rfl (by kernel_rfl) Tryz.ntmps212 (by rw[Tryz.results212]) rfl rfl
@[simp] theorem aCa:EF 213 Qy zg zm Ue zl zo:=⟨rfl,rfl,rfl,rfl,rfl,rfl⟩
theorem aiC:RF 213 33 Ue f213 [.tmp 6,.tmp 7,.tmp 8]:=az rfl rfl Tryz.func213 rfl (by kernel_rfl) Tryz.ntmps213 (by rw[Tryz.results213]) rfl rfl
@[simp] theorem aCb:EF 214 Qz zg zm Uf zl zo:=⟨rfl,rfl,rfl,rfl,rfl,rfl⟩
theorem aiD:RF 214 64 Uf f214 [.tmp 6,.tmp 7,.tmp 8]:=az rfl rfl Tryz.func214 rfl (by kernel_rfl) Tryz.ntmps214 (by rw[Tryz.results214]) rfl rfl
@[simp] theorem aCc:EF 215 QA zg zm Ug zl zo:=⟨rfl,rfl,rfl,rfl,rfl,rfl⟩
theorem aiE:RF 215 43 Ug f215 [.tmp 6,.tmp 7,.tmp 8]:=az rfl rfl Tryz.func215 rfl (by kernel_rfl) Tryz.ntmps215 (by rw[Tryz.results215]) rfl rfl
@[simp] theorem aCd:EF 220 QB zg zm adk zl zo:=⟨rfl,rfl,rfl,rfl,rfl,rfl⟩
@[simp] theorem aCe:EF 221 QC zg zm adl zl zo:=⟨rfl,rfl,rfl,rfl,rfl,rfl⟩
@[simp] theorem aCf:EF 222 QD zg zm adm zl zo:=⟨rfl,rfl,rfl,rfl,rfl,rfl⟩
@[simp] theorem aCg:EF 262 QE zg zm Uh zl zo:=⟨rfl,rfl,rfl,rfl,rfl,rfl⟩
theorem aiF:RF 262 19 Uh f262 [.tmp 4]:=az rfl rfl Tryz.func262 rfl (by kernel_rfl) Tryz.ntmps262 (by rw[Tryz.results262]) rfl rfl
@[simp] theorem aCh:EF 263 QF zg zm Ui zl zo:=⟨rfl,rfl,rfl,rfl,rfl,rfl⟩
theorem aiG:RF 263 8 Ui f263 [.tmp 3]:=az rfl rfl Tryz.func263 rfl (by kernel_rfl) Tryz.ntmps263 (by rw[Tryz.results263]) rfl rfl
@[simp] theorem aCi:EF 264 QG zg zm Uj zl zo:=⟨rfl,rfl,rfl,rfl,rfl,rfl⟩
theorem aiH:RF 264 23 Uj f264 [.tmp 4,.tmp 5]:=az rfl rfl Tryz.func264 rfl (by kernel_rfl) Tryz.ntmps264 (by rw[Tryz.results264]) rfl rfl
@[simp] theorem aCj:EF 265 QH zg zm Uk zl zo:=⟨rfl,rfl,rfl,rfl,rfl,rfl⟩
theorem aiI:RF 265 23 Uk f265 [.tmp 4,.tmp 5]:=az rfl rfl Tryz.func265 rfl (by kernel_rfl) Tryz.ntmps265 (by rw[Tryz.results265]) rfl rfl
@[simp] theorem aCk:EF 266 QI zg zm Ul zl zo:=⟨rfl,rfl,rfl,rfl,rfl,rfl⟩
theorem aiJ:RF 266 27 Ul f266 [.tmp 4,.tmp 5]:=az rfl rfl Tryz.func266 rfl (by kernel_rfl) Tryz.ntmps266 (by rw[Tryz.results266]) rfl rfl
@[simp] theorem aCl:EF 267 QJ zg zm Um zl zo:=⟨rfl,rfl,rfl,rfl,rfl,rfl⟩
theorem aiK:RF 267 19 Um f267 [.tmp 4,.tmp 5]:=az rfl rfl Tryz.func267 rfl (by kernel_rfl) Tryz.ntmps267 (by rw[Tryz.results267]) rfl rfl
@[simp] theorem aCm:EF 268 QK zg zm Un zl zo:=⟨rfl,rfl,rfl,rfl,rfl,rfl⟩
theorem aiL:RF 268 14 Un f268 [.tmp 4,.tmp 5]:=az rfl rfl Tryz.func268 rfl (by kernel_rfl) Tryz.ntmps268 (by rw[Tryz.results268]) rfl rfl
@[simp] theorem aCn:EF 269 QL zg adn ado zl zo:=⟨rfl,rfl,rfl,rfl,rfl,rfl⟩
@[simp] theorem aCo:EF 270 QM zg adp adq zl zo:=⟨rfl,rfl,rfl,rfl,rfl,rfl⟩
@[simp] theorem aCp:EF 297 QN zg zm Uo zl zo:=⟨rfl,rfl,rfl,rfl,rfl,rfl⟩
theorem aiM:RF 297 51 Uo f297 [.tmp 4,.tmp 5]:=az rfl rfl Tryz.func297 rfl (by kernel_rfl) Tryz.ntmps297 (by rw[Tryz.results297]) rfl rfl
@[simp] theorem aCq:EF 298 QO zg zm Up zl zo:=⟨rfl,rfl,rfl,rfl,rfl,rfl⟩
theorem aiN:RF 298 10 Up f298 [.tmp 2]:=az rfl rfl Tryz.func298 rfl (by kernel_rfl) Tryz.ntmps298 (by rw[Tryz.results298]) rfl rfl
@[simp] theorem aCr:EF 299 QP zg zm Uq zl zo:=⟨rfl,rfl,rfl,rfl,rfl,rfl⟩
theorem aiO:RF 299 24 Uq f299 [.tmp 4,.tmp 5]:=az rfl rfl Tryz.func299 rfl (by kernel_rfl) Tryz.ntmps299 (by rw[Tryz.results299]) rfl rfl
@[simp] theorem aCs:EF 300 QQ zg zm ads zl adr:=⟨rfl,rfl,rfl,rfl,rfl,rfl⟩
@[simp] theorem aCt:EF 301 QR zg zm adu zl adt:=⟨rfl,rfl,rfl,rfl,rfl,rfl⟩
end Go.Am
end
section
namespace Go.Am
@[simp] def aCu(t:WB):D:=.agg [.int .i64 t.kind,.str t.text,.int .i64 t.n,.int .i64 t.line,.int .i64 t.col]
end Go.Am
end
section
namespace Go.Am
open Go
def eF(op:Int):Nat:=if op=4\/op=6\/op=7 then 1 else if 7<op then 2 else 0
mutual
def bC:Ex->Bool
 | .mk op n name field sub _=>
  !decide ((op=1/\n<0)\/(op=2/\(n<0\/1<n))\/(2<op/\n≠0)\/op<1\/21<op)&&
  (decide (sub.length=eF op)&&((if op=3\/op=4\/op=5 then dK name else decide (name=[]))&&((if op=5 then dK field else decide (field=[]))&&bO sub)))
def bO:List Ex->Bool
 |[]=>true
 |x::r=>bC x&&bO r
end
theorem jN:∀l:List Ex,bO l=true↔∀x∈l,bC x=true
 |[]=>by simp[bO]
 |x::r=>by simp[bO,jN r]
def eG(x:Ex):Bool:=decide (cq x=0)&&(decide (jG x=0)&&decide ((ew x).length+(gK x).length+(dq x).length=0))
def sE(l:List Int):Bool:=!decide (l.length=0)&&(decide (l.length%2=0)&&l.all λn=>decide (n≠ -9223372036854775808))
def cR(op:Int)(conds E fields blocks:Nat):Bool:=
 if op=2 then decide (conds=max 1 conds)&&(decide (E=0)&&(decide (fields=0)&&(decide (max 1 conds<=blocks)&&decide (blocks<=max 1 conds+1))))
 else if op=3 then decide (conds=0)&&(decide (fields=0)&&(decide (E<=blocks)&&decide (blocks<=E+1)))
 else if op=4 then decide (conds=3)&&(decide (E=0)&&(decide (fields=0)&&decide (blocks=1)))
 else if op=5\/op=6 then decide (conds=0)&&(decide (E=0)&&(decide (fields=0)&&decide (blocks=1)))
 else if op=9 then decide (conds=fields)&&(decide (E=0)&&decide (blocks=0))
 else decide (conds=0)&&(decide (E=0)&&(decide (fields=0)&&decide (blocks=0)))
mutual
def j7:Sm->Bool
 | .mk op name to val conds E fields blocks _=>
  decide (1<=op/\op<=9)&&((if op=4\/op=9 then dK name else decide (name=[]))&&
  ((if op=1 then decide (cq to=3\/cq to=4)&&bC to else eG to)&&
  ((if op=1\/op=3\/op=5\/op=6 then !eG val&&bC val else eG val)&&
  (bO conds&&(cR op conds.length E.length fields.length blocks.length&&
  (fields.all dK&&(E.all sE&&da blocks)))))))
def eP:List Sm->Bool
 |[]=>true
 |x::r=>j7 x&&eP r
def da:List (List Sm)->Bool
 |[]=>true
 |b::r=>eP b&&da r
end
def rC(k:Int):Bool:=(bI k).length≠0
def dQ(v:Vr):Bool:=
 dK v.name&&(decide (0<=v.sec/\v.sec<=2)&&(decide (v.ty=1\/v.ty=2)||rC v.ty)&&
 ((if v.arr=true then decide (v.ty<=2/\0<=v.lo/\v.lo<=v.hi/\v.hi<=255)else decide (v.lo=0/\v.hi=0))&&
 !decide (((v.arr=true\/2<v.ty)/\v.init≠0)\/(v.ty=2/\(v.init<0\/1<v.init))\/v.init= -9223372036854775808)))
def nN(p:Pg):Bool:=dK p.name&&(decide (p.vars.length<=64)&&(p.vars.all dQ&&eP p.body))
abbrev EL:=Int×Int
def gj(a b:EL):EL:=if a.1≠0 then a else b
def Jw(a:Te):EL:=(a.e,a.line)
def GW(vs:List Vr)(to val:Ex)(line:Int):EL:=
 match bq vs (ew to)with
 |none=>(9,lJ to)
 |some v=>if v.sec=1 then (1,lJ to)else gj (Jw (aK vs to)) (gj (Jw (aK vs val)) (if (aK vs val).t≠(aK vs to).t then (10,line)else (0,0)))
def mK(vs:List Vr)(t:Int):List Ex->EL
 |[]=>(0,0)
 |x::r=>gj (dZ vs x t) (mK vs t r)
def jZ(vs:List Vr)(k line:Int):List Tx->List Ex->List Tx->EL
 |f::H,x::xs,p=>match nh k f with
  |none=>(9,line)
  |some q=>if q.PH=false then (9,line)else if f∈p then (11,line)else gj (dZ vs x q.ty) (jZ vs k line H xs (p++[f]))
 |_,_,_=>(0,0)
mutual
def kZ(vs:List Vr)(D:Bool):Sm->EL
 | .mk op name to val conds _ fields blocks line=>
  if op=1 then GW vs to val line
  else if op=2 then fW vs D conds blocks
  else if op=3 then gj (dZ vs val 1) (fW vs D [] blocks)
  else if op=4 then (match bq vs name with
   |none=>(9,line)
   |some v=>if v.sec=1 then (1,line)else if v.arr=true\/v.ty≠1 then (10,line)else gj (mK vs 1 conds) (xC vs blocks))
  else if op=5 then gj (dZ vs val 2) (xC vs blocks)
  else if op=6 then gj (xC vs blocks) (dZ vs val 2)
  else if op=7 then (if D=true then (0,0)else (14,line))
  else if op=9 then (match bq vs name with
   |none=>(9,line)
   |some v=>if v.ty<=2 then (10,line)else jZ vs v.ty line fields conds [])
  else (0,0)
def fg(vs:List Vr)(D:Bool):List Sm->EL
 |[]=>(0,0)
 |x::r=>gj (kZ vs D x) (fg vs D r)
def fW(vs:List Vr)(D:Bool):List Ex->List (List Sm)->EL
 |_,[]=>(0,0)
 |[],b::r=>gj (fg vs D b) (fW vs D [] r)
 |c::cs,b::r=>gj (dZ vs c 2) (gj (fg vs D b) (fW vs D cs r))
def xC(vs:List Vr):List (List Sm)->EL
 |[]=>(0,0)
 |b::_=>fg vs true b
end
def Jx:List Vr->List Vr->Int->EL
 |[],_,_=>(0,0)
 |v::r,p,n=>if (bq p v.name).isSome then (11,v.line)else if 1024<n+bX v then (13,v.line)else Jx r (p++[v]) (n+bX v)
def oH(p:Pg):EL:=gj (Jx p.vars [] 0) (fg p.vars false p.body)
def rD{α:Type}(p:α->Bool):List α->Nat->Int
 |[],_=> -1
 |x::r,i=>if p x=true then i else rD p r (i+1)
theorem GX{α:Type}(p:α->Bool):∀(l:List α)(i:Nat),rD p l i= -1\/(i<=rD p l i/\rD p l i<i+l.length)
 |[],i=>.inl rfl
 |x::r,i=>by
  unfold rD;split
  ·right;simp;omega
  ·rcases GX p r (i+1)with h|h
   ·exact .inl h
   ·right;simp only[acq];omega
end Go.Am
end
section
namespace Go.Am
open Go Go.Proofs
variable [Inhabited b9]
set_option maxRecDepth 20000
@[simp] theorem awS(a b:Tx):(a == b)=decide (a=b):=by by_cases h:a=b<;>simp[h]
end Go.Am
end
section
namespace Go.Am
open Go Go.Proofs Go.Proofs.Tryz
variable [Inhabited b9]
set_option maxRecDepth 20000
theorem atG:ai ctx 75 [.d (.int .i64 10)] []=some (.ret (.d (.list ((bI 10).map dH))),[]):=bH 120 (by kernel_rfl)
theorem atH:ai ctx 75 [.d (.int .i64 11)] []=some (.ret (.d (.list ((bI 11).map dH))),[]):=bH 120 (by kernel_rfl)
theorem atJ:ai ctx 75 [.d (.int .i64 12)] []=some (.ret (.d (.list ((bI 12).map dH))),[]):=bH 120 (by kernel_rfl)
theorem atK:ai ctx 75 [.d (.int .i64 13)] []=some (.ret (.d (.list ((bI 13).map dH))),[]):=bH 120 (by kernel_rfl)
theorem atM:ai ctx 75 [.d (.int .i64 14)] []=some (.ret (.d (.list ((bI 14).map dH))),[]):=bH 120 (by kernel_rfl)
theorem atN:ai ctx 75 [.d (.int .i64 15)] []=some (.ret (.d (.list ((bI 15).map dH))),[]):=bH 120 (by kernel_rfl)
theorem atO:ai ctx 75 [.d (.int .i64 16)] []=some (.ret (.d (.list ((bI 16).map dH))),[]):=bH 120 (by kernel_rfl)
theorem atP:ai ctx 75 [.d (.int .i64 17)] []=some (.ret (.d (.list ((bI 17).map dH))),[]):=bH 120 (by kernel_rfl)
theorem atQ:ai ctx 75 [.d (.int .i64 18)] []=some (.ret (.d (.list ((bI 18).map dH))),[]):=bH 120 (by kernel_rfl)
theorem atS:ai ctx 75 [.d (.int .i64 20)] []=some (.ret (.d (.list ((bI 20).map dH))),[]):=bH 120 (by kernel_rfl)
theorem atT:ai ctx 75 [.d (.int .i64 21)] []=some (.ret (.d (.list ((bI 21).map dH))),[]):=bH 120 (by kernel_rfl)
theorem atU:ai ctx 75 [.d (.int .i64 22)] []=some (.ret (.d (.list ((bI 22).map dH))),[]):=bH 120 (by kernel_rfl)
theorem atV:ai ctx 75 [.d (.int .i64 23)] []=some (.ret (.d (.list ((bI 23).map dH))),[]):=bH 120 (by kernel_rfl)
theorem atW:ai ctx 75 [.d (.int .i64 24)] []=some (.ret (.d (.list ((bI 24).map dH))),[]):=bH 120 (by kernel_rfl)
theorem atX:ai ctx 75 [.d (.int .i64 25)] []=some (.ret (.d (.list ((bI 25).map dH))),[]):=bH 120 (by kernel_rfl)
theorem atY:ai ctx 75 [.d (.int .i64 26)] []=some (.ret (.d (.list ((bI 26).map dH))),[]):=bH 120 (by kernel_rfl)
theorem atZ:ai ctx 75 [.d (.int .i64 27)] []=some (.ret (.d (.list ((bI 27).map dH))),[]):=bH 120 (by kernel_rfl)
theorem at0:ai ctx 75 [.d (.int .i64 28)] []=some (.ret (.d (.list ((bI 28).map dH))),[]):=bH 120 (by kernel_rfl)
theorem at1:ai ctx 75 [.d (.int .i64 29)] []=some (.ret (.d (.list ((bI 29).map dH))),[]):=bH 120 (by kernel_rfl)
theorem at3:ai ctx 75 [.d (.int .i64 30)] []=some (.ret (.d (.list ((bI 30).map dH))),[]):=bH 120 (by kernel_rfl)
theorem at4:ai ctx 75 [.d (.int .i64 31)] []=some (.ret (.d (.list ((bI 31).map dH))),[]):=bH 120 (by kernel_rfl)
def rE:D->Option Int
 | .agg [.int .i64 k,.str _,.str _,.str _,.int .i64 _]=>some k
 |_=>none
theorem Eg{d:D}{k:Int}(h:rE d=some k):∃a b c n,d=.agg [.int .i64 k,.str a,.str b,.str c,.int .i64 n]:=by
 unfold rE at h;split at h
 ·rename_i A2 a b c n;cases h;exact⟨a,b,c,n,rfl⟩
 ·cases h
def QS:Option (Out×List (Nat×aJ))->Option (List (Option Int))
 |some (.ret (.d (.list l)),[])=>some (l.map rE)
 |_=>none
theorem aiP:QS (aW ctx 120 164 [] [])=some (ia.map some):=by kernel_rfl
theorem aa3:∃l:List D,ai ctx 164 [] []=some (.ret (.d (.list l)),[])/\l.map rE=ia.map some:=by
 have h:=aiP;generalize V:aW ctx 120 164 [] []=r at h;unfold QS at h;split at h
 ·rename_i l;exact⟨l,bH 120 V,by simpa using h⟩
 ·cases h
theorem aa4(d:D)(k b:Int)(H:rE d=some k):ai ctx 166 [.d d,.ptr 0 0 0] [.box [.d (.int .i64 b)]]=some (.ret (.d (.bool (decide (k=b)))),[(0,.box [.d (.int .i64 b)])]):=by
 obtain⟨a,e,c,n,rfl⟩:=Eg H;rw[XM (by simp)];simp[f166]
theorem Eh(b:Int):∀(rest pre:List D),(∀d∈rest,∃k,rE d=some k/\k≠b)->(pre++rest).length<1000->∀k:Kt,
 aO ctx 165 (.loop (Code.at (bg f165) [1,0,1,0,0])) ⟨19,aD,[(0,true,.d (.list (pre++rest))),(1,true,.fn 166 [.ptr 0 0 0]),(7,true,.d (.int .i64 (pre++rest).length)),(8,true,.d (.int .i64 pre.length))],[⟨0,0,.box [.d (.int .i64 b)]⟩]⟩ k=
  k (.exit 0) ⟨19,aD,[(0,true,.d (.list (pre++rest))),(1,true,.fn 166 [.ptr 0 0 0]),(7,true,.d (.int .i64 (pre++rest).length)),(8,true,.d (.int .i64 (pre++rest).length)),(9,true,.d (.bool false))],[⟨0,0,.box [.d (.int .i64 b)]⟩]⟩
 |[],pre,h,I,k=>by
  rw[ag];simp[f165]
 |d::rest,pre,h,I,k=>by
  obtain⟨O,J,Y⟩:=h d (by simp);have T:=aa4 d O b J;obtain⟨Z,a2,a3,a4,rfl⟩:=Eg J;have ih:=Eh b rest (pre++[.agg [.int .i64 O,.str Z,.str a2,.str a3,.int .i64 a4]]) (λd H=>h d (by simp[H])) (by simpa using I) k;have M:(pre.length:Int)<pre.length+(rest.length+1):=by omega
  have y:IntKind.i64.wrap ((pre.length:Int)+1)=pre.length+1:=aA (by unfold aY;simp at I;omega);simp[Y]at T;rw[ag];simp[f165]at ih⊢;simp[M,y,T,ih]
theorem Ut(b:Int)(E:b∉ia):ai ctx 75 [.d (.int .i64 b)] []=some (.ret (.d (.list [])),[]):=by
 obtain⟨l,I,hm⟩:=aa3;have A3:l.length=21:=by have:=aga List.length hm;simpa [ia]using this
 have A':∀d∈l,∃k,rE d=some k/\k≠b:=by
  intro d H;have M:rE d∈l.map rE:=adL H;rw[hm]at M;obtain⟨k,J,he⟩:=acF.1 M;exact⟨k,he.symm,λh=>E (h▸J)⟩
 have U:=Eh b l [] A' (by simp;omega);have A0:ai ctx 165 [.d (.list l),.fn 166 [.ptr 0 0 0]] [.box [.d (.int .i64 b)]]=some (.ret (.d (.int .i64 (-1))),[(0,.box [.d (.int .i64 b)])]):=by
  rw[XL (by simp)];simp[f165]at U⊢;simp[U]
 have A1:ai ctx 114 [.d (.int .i64 b)] []=some (.ret (.bh [.d (.agg [.int .i64 0,.str [],.str [],.str [],.int .i64 0]),.d (.bool false)]),[]):=by
  rw[XG (by simp)];simp[f114,I,A0]
 rw[adx (by simp)];simp[f75,A1]
theorem QT(b:Int):ai ctx 75 [.d (.int .i64 b)] []=some (.ret (.d (.list ((bI b).map dH))),[]):=by
 by_cases E:b∈ia
 ·simp only[ia,aco,adQ,akp]at E;rcases E with rfl|rfl|rfl|rfl|rfl|rfl|rfl|rfl|rfl|rfl|rfl|rfl|rfl|rfl|rfl|rfl|rfl|rfl|rfl|rfl|rfl
  ·exact atG
  ·exact atH
  ·exact atJ
  ·exact atK
  ·exact atM
  ·exact atN
  ·exact atO
  ·exact atP
  ·exact atQ
  ·exact atS
  ·exact atT
  ·exact atU
  ·exact atV
  ·exact atW
  ·exact atX
  ·exact atY
  ·exact atZ
  ·exact at0
  ·exact at1
  ·exact at3
  ·exact at4
 ·rw[pc E];exact Ut b E
end Go.Am
end
section
namespace Go.Am
open Go Go.Proofs
variable [Inhabited b9]
set_option maxRecDepth 20000
def uM:Vr:=⟨[],0,0,false,0,0,0,0⟩
def fV(vs:List Vr)(s:Tx):Vr:=(bq vs s).getD uM
def xD:Pn:=⟨[],0,false⟩
def fP(k:Int)(s:Tx):Pn:=(nh k s).getD xD
end Go.Am
end
section
namespace Go.Am
open Go Go.Proofs Go.Proofs.Tryz
variable [Inhabited b9]
set_option maxRecDepth 20000
@[simp] def Uu(t:Tx):D:=.str t
theorem GY(s:Tx)(l:List Tx)(A':l.length<=1000)(k:Kt)(R1 R2:b7)
 (H:k .ret ⟨15,aD,[(2,true,.d (.bool true))],[]⟩=R1)
 (E:∀Y:Env,k (.exit 0) ⟨15,aD,Y,[]⟩=R2):∀(rest:List Tx)(j:Nat),l.drop j=rest->j+rest.length=l.length->
 aO ctx 84 (.loop (Code.at (bg f84) [1,0,1,0,0])) ⟨15,aD,[(0,true,.d (.str s)),(5,true,.d (.list (l.map Uu))),(6,true,.d (.int .i64 l.length)),(7,true,.d (.int .i64 j))],[]⟩ k=if s∈rest then R1 else R2
 |[],j,J,I=>by
  have I:j=l.length:=by simpa using I
  subst I;rw[ag];simp[f84,E]
 |x::rest,j,J,I=>by
  have O:j<l.length:=by simp at I;omega
  have Z:l[j]=x:=by
   have:=aga (·[0]?) J;simp at this;simpa [O]using this
  have ih:=GY s l A' k R1 R2 H E rest (j+1) (by rw[<-akq,J];rfl) (by simp at I;omega);have T:IntKind.i64.wrap ((j:Int)+1)=(j:Int)+1:=aA (by unfold aY;omega);rw[ag];by_cases A0:x=s
  ·simp[f84];simp[O,Z,A0,H]
  ·have A5:¬s=x:=λh=>A0 h.symm;simp[f84]at ih⊢;simp[O,Z,A0,A5,T,ih]
theorem XP(s:Tx):ai ctx 84 [.d (.str s)] []=some (.ret (.d (.bool (Kz s))),[]):=by
 have U:=λk R1 R2 H E=>GY s oG (by decide) k R1 R2 H E oG 0 rfl (by decide);have e:List.map Uu oG=oG.map Uu:=rfl;have A9:oG.length=36:=rfl;have A6:List.range' 0 36=[0,1,2,3,4,5,6,7,8,9,10,11,12,13,14,15,16,17,18,19,20,21,22,23,24,25,26,27,28,29,30,31,32,33,34,35]:=rfl;rw[anX (by simp)];unfold Kz;generalize A1:decide (s∈oG)=B;simp[f84,oG]at U;simp[f84,A6];rw[U _ (some (.ret (.d (.bool true)),[])) (some (.ret (.d (.bool false)),[])) (by simp) (by simp)];subst A1;by_cases hm:s∈oG
 ·rw[agf hm];simp only[oG,aco,adQ,akp]at hm;rw[acs hm]
 ·rw[apb hm];simp only[oG,aco,adQ,akp]at hm;rw[ach hm]
theorem GZ(s:Tx)(A':s.length<=16)(k:Kt)(R1 R2:b7)
 (H:k .ret ⟨59,aD,[(2,true,.d (.bool false))],[]⟩=R1)
 (E:∀Y:Env,k (.exit 0) ⟨59,aD,Y,[]⟩=R2):∀(rest:Tx)(j:Nat),s.drop j=rest->j+rest.length=s.length->
 aO ctx 44 (.loop (Code.at (bg f44) [1,1,0,1,0,0])) ⟨59,aD,[(0,true,.d (.str s)),(3,true,.d (.int .i64 j))],[]⟩ k=if xA rest j=true then R2 else R1
 |[],j,J,I=>by
  have I:j=s.length:=by simpa using I
  subst I;rw[ag];simp[f44,E,xA]
 |c::rest,j,J,I=>by
  have O:j<s.length:=by simp at I;omega
  have Z:C7 s j=c:=by
   have:=aga (·[0]?) J;simp at this;simp[C7,this]
  have ih:=GZ s A' k R1 R2 H E rest (j+1) (by rw[<-akq,J];rfl) (by simp at I;omega);have T:IntKind.i64.wrap ((j:Int)+1)=(j:Int)+1:=aA (by unfold aY;omega);have key:xA (c::rest) j=((Z9 c||(!decide (j=0)&&(decide (c=95)||aaa c)))&&xA rest (j+1)):=rfl;have A7:decide (c=95)=decide (c.toNat=95):=by
   rw[agS];exact⟨λh=>by rw[h];rfl,λh=>UInt8.toNat_inj.1 (by rw[h];rfl)⟩
  rw[key,A7];generalize xA rest (j+1)=B at*;rw[ag];simp[f44]at ih⊢;simp[O,Z,T,H,ih];unfold Z9 aaa;grind
theorem fM(s:Tx):ai ctx 44 [.d (.str s)] []=some (.ret (.d (.bool (dK s))),[]):=by
 have hw:=XP s;unfold dK;rw[anB (by simp)];by_cases H:s.length<1
 ·have E:¬1<=s.length:=by omega
  have M:(s.length:Int)<1:=by omega
  simp[f44,E,M]
 ·by_cases A2:16<s.length
  ·have E:1<=s.length:=by omega
   have M:¬(s.length:Int)<1:=by omega
   have V:¬s.length<=16:=by omega
   have y:(16:Int)<s.length:=by omega
   simp[f44,E,M,V,A2,y]
  ·have E:1<=s.length:=by omega
   have M:¬(s.length:Int)<1:=by omega
   have V:s.length<=16:=by omega
   have y:¬(16:Int)<s.length:=by omega
   cases A4:Kz s with
   |true=>
    rw[A4]at hw;simp[f44,E,M,V,A2,y,hw]
   |false=>
    rw[A4]at hw;have U:=λk R1 R2 H E=>GZ s V k R1 R2 H E s 0 rfl (by simp);simp[f44]at U;simp[f44,E,M,V,A2,y,hw];rw[U _ (some (.ret (.d (.bool false)),[])) (some (.ret (.d (.bool true)),[])) (by simp) (by simp)];cases xA s 0<;>simp
theorem QU{x:Ex}(h:(ew x).length<100000000/\(gK x).length<100000000/\(dq x).length<100000000):ai ctx 88 [.d (.agg [.int .i64 (cq x),.int .i64 (jG x),.str (ew x),.str (gK x),.list ((dq x).map cj),.int .i64 (lJ x)])] []=some (.ret (.d (.bool (eG x))),[]):=by
 have T:IntKind.i64.wrap ((ew x).length+(gK x).length:Int)=(ew x).length+(gK x).length:=aA (by unfold aY;omega);have A8:IntKind.i64.wrap ((ew x).length+(gK x).length+(dq x).length:Int)=(ew x).length+(gK x).length+(dq x).length:=aA (by unfold aY;omega);unfold eG;generalize A1:decide ((ew x).length+(gK x).length+(dq x).length=0)=B;rw[an0 (by simp)];by_cases A3:cq x=0
 ·by_cases H:jG x=0
  ·simp[f88,A3,H];rw[T,A8,<-A1,agS];omega
  ·simp[f88,A3,H]
 ·simp[f88,A3]
theorem aa6(op:Int):ai ctx 86 [.d (.int .i64 op)] []=some (.ret (.bh [.d (.bool (decide (op=4\/op=9))),.d (.bool (decide (op=1))),.d (.bool (decide (op=1\/op=3\/op=5\/op=6)))]),[]):=by
 rw[anY (by simp)];simp[f86];grind
theorem rF(x:Ex):bC x=(!decide ((cq x=1/\jG x<0)\/(cq x=2/\(jG x<0\/1<jG x))\/(2<cq x/\jG x≠0)\/cq x<1\/21<cq x)&&
 (decide ((dq x).length=eF (cq x))&&((if cq x=3\/cq x=4\/cq x=5 then dK (ew x)else decide (ew x=[]))&&((if cq x=5 then dK (gK x)else decide (gK x=[]))&&bO (dq x))))):=by
 cases x;rw[bC];rfl
def KF(l:List Ex):Prop:=ai ctx 87 [.d (.list (l.map cj))] []=some (.ret (.d (.bool (bO l))),[])
theorem aiQ{l:List Ex}(V:l.length<100000000){i:Nat}{x:Ex}(E:i<l.length)(H:l[i]=x)(D:KF (dq x))(Y:(dq x).length<100000000)(k:Kt)(R1 R2:b7)(B:Bool)
 (I:∀v X,k .ret ⟨126,aD,[(2,true,.d (.bool false))],[⟨300,v,X⟩]⟩=R1)
 (ih:∀v X,aO ctx 87 (.loop (Code.at (bg f87) [1,0,1,0,0])) ⟨126,aD,[(0,true,.d (.list (l.map cj))),(3,true,.d (.int .i64 (i+1)))],[⟨300,v,X⟩]⟩ k=if B=true then R2 else R1) (h:cq x<1) (v:Nat) (X:aJ):
 aO ctx 87 (.loop (Code.at (bg f87) [1,0,1,0,0])) ⟨126,aD,[(0,true,.d (.list (l.map cj))),(3,true,.d (.int .i64 i))],[⟨300,v,X⟩]⟩ k=if (bC x&&B)=true then R2 else R1:=by
 have J:IntKind.i64.wrap ((i:Int)+1)=i+1:=aA (by unfold aY;omega);have M:=fM (ew x);have O:=fM (gK x);unfold KF at D;rw[rF];generalize bO (dq x)=S at*;generalize dK (ew x)=N at*;generalize dK (gK x)=F at*;have Z:¬cq x=1:=by omega
 have c:¬cq x=2:=by omega
 have A':¬cq x=3:=by omega
 have A0:¬cq x=4:=by omega
 have A1:¬cq x=5:=by omega
 have A2:¬cq x=6:=by omega
 have A3:¬cq x=7:=by omega
 have d1:¬2<cq x:=by omega
 rw[ag];simp[f87]at ih⊢;simp[E,H,J,aI,h,D,M,O,ih,I,Z,c,d1];intros;omega
theorem aiR{l:List Ex}(V:l.length<100000000){i:Nat}{x:Ex}(E:i<l.length)(H:l[i]=x)(D:KF (dq x))(Y:(dq x).length<100000000)(k:Kt)(R1 R2:b7)(B:Bool)
 (I:∀v X,k .ret ⟨126,aD,[(2,true,.d (.bool false))],[⟨300,v,X⟩]⟩=R1)
 (ih:∀v X,aO ctx 87 (.loop (Code.at (bg f87) [1,0,1,0,0])) ⟨126,aD,[(0,true,.d (.list (l.map cj))),(3,true,.d (.int .i64 (i+1)))],[⟨300,v,X⟩]⟩ k=if B=true then R2 else R1) (h:cq x=1) (v:Nat) (X:aJ):
 aO ctx 87 (.loop (Code.at (bg f87) [1,0,1,0,0])) ⟨126,aD,[(0,true,.d (.list (l.map cj))),(3,true,.d (.int .i64 i))],[⟨300,v,X⟩]⟩ k=if (bC x&&B)=true then R2 else R1:=by
 have J:IntKind.i64.wrap ((i:Int)+1)=i+1:=aA (by unfold aY;omega);have M:=fM (ew x);have O:=fM (gK x);unfold KF at D;rw[rF];generalize bO (dq x)=S at*;generalize dK (ew x)=N at*;generalize dK (gK x)=F at*;rw[ag];simp[f87]at ih⊢;have U:eF 1=0:=rfl;by_cases T:jG x<0
 ·simp[E,H,J,aI,h,D,M,O,ih,I,T];intros;omega
 ·by_cases y:1<jG x
  ·simp[E,H,J,aI,h,D,M,O,ih,I,T,y,U];grind
  ·simp[E,H,J,aI,h,D,M,O,ih,I,T,y,U];grind
theorem aiS{l:List Ex}(V:l.length<100000000){i:Nat}{x:Ex}(E:i<l.length)(H:l[i]=x)(D:KF (dq x))(Y:(dq x).length<100000000)(k:Kt)(R1 R2:b7)(B:Bool)
 (I:∀v X,k .ret ⟨126,aD,[(2,true,.d (.bool false))],[⟨300,v,X⟩]⟩=R1)
 (ih:∀v X,aO ctx 87 (.loop (Code.at (bg f87) [1,0,1,0,0])) ⟨126,aD,[(0,true,.d (.list (l.map cj))),(3,true,.d (.int .i64 (i+1)))],[⟨300,v,X⟩]⟩ k=if B=true then R2 else R1) (h:cq x=2) (v:Nat) (X:aJ):
 aO ctx 87 (.loop (Code.at (bg f87) [1,0,1,0,0])) ⟨126,aD,[(0,true,.d (.list (l.map cj))),(3,true,.d (.int .i64 i))],[⟨300,v,X⟩]⟩ k=if (bC x&&B)=true then R2 else R1:=by
 have J:IntKind.i64.wrap ((i:Int)+1)=i+1:=aA (by unfold aY;omega);have M:=fM (ew x);have O:=fM (gK x);unfold KF at D;rw[rF];generalize bO (dq x)=S at*;generalize dK (ew x)=N at*;generalize dK (gK x)=F at*;rw[ag];simp[f87]at ih⊢;have U:eF 2=0:=rfl;by_cases T:jG x<0
 ·simp[E,H,J,aI,h,D,M,O,ih,I,T];intros;omega
 ·by_cases y:1<jG x
  ·simp[E,H,J,aI,h,D,M,O,ih,I,T,y,U];intros;omega
  ·simp[E,H,J,aI,h,D,M,O,ih,I,T,y,U];grind
theorem aiT{l:List Ex}(V:l.length<100000000){i:Nat}{x:Ex}(E:i<l.length)(H:l[i]=x)(D:KF (dq x))(Y:(dq x).length<100000000)(k:Kt)(R1 R2:b7)(B:Bool)
 (I:∀v X,k .ret ⟨126,aD,[(2,true,.d (.bool false))],[⟨300,v,X⟩]⟩=R1)
 (ih:∀v X,aO ctx 87 (.loop (Code.at (bg f87) [1,0,1,0,0])) ⟨126,aD,[(0,true,.d (.list (l.map cj))),(3,true,.d (.int .i64 (i+1)))],[⟨300,v,X⟩]⟩ k=if B=true then R2 else R1) (h:cq x=3) (v:Nat) (X:aJ):
 aO ctx 87 (.loop (Code.at (bg f87) [1,0,1,0,0])) ⟨126,aD,[(0,true,.d (.list (l.map cj))),(3,true,.d (.int .i64 i))],[⟨300,v,X⟩]⟩ k=if (bC x&&B)=true then R2 else R1:=by
 have J:IntKind.i64.wrap ((i:Int)+1)=i+1:=aA (by unfold aY;omega);have M:=fM (ew x);have O:=fM (gK x);unfold KF at D;rw[rF];generalize bO (dq x)=S at*;generalize dK (ew x)=N at*;generalize dK (gK x)=F at*;rw[ag];simp[f87]at ih⊢;have U:eF 3=0:=rfl;by_cases T:jG x=0
 ·simp[E,H,J,aI,h,D,M,O,ih,I,T,U];grind
 ·simp[E,H,J,aI,h,D,M,O,ih,I,T]
theorem aiU{l:List Ex}(V:l.length<100000000){i:Nat}{x:Ex}(E:i<l.length)(H:l[i]=x)(D:KF (dq x))(Y:(dq x).length<100000000)(k:Kt)(R1 R2:b7)(B:Bool)
 (I:∀v X,k .ret ⟨126,aD,[(2,true,.d (.bool false))],[⟨300,v,X⟩]⟩=R1)
 (ih:∀v X,aO ctx 87 (.loop (Code.at (bg f87) [1,0,1,0,0])) ⟨126,aD,[(0,true,.d (.list (l.map cj))),(3,true,.d (.int .i64 (i+1)))],[⟨300,v,X⟩]⟩ k=if B=true then R2 else R1) (h:cq x=4) (v:Nat) (X:aJ):
 aO ctx 87 (.loop (Code.at (bg f87) [1,0,1,0,0])) ⟨126,aD,[(0,true,.d (.list (l.map cj))),(3,true,.d (.int .i64 i))],[⟨300,v,X⟩]⟩ k=if (bC x&&B)=true then R2 else R1:=by
 have J:IntKind.i64.wrap ((i:Int)+1)=i+1:=aA (by unfold aY;omega);have M:=fM (ew x);have O:=fM (gK x);unfold KF at D;rw[rF];generalize bO (dq x)=S at*;generalize dK (ew x)=N at*;generalize dK (gK x)=F at*;rw[ag];simp[f87]at ih⊢;have U:eF 4=1:=rfl;by_cases T:jG x=0
 ·simp[E,H,J,aI,h,D,M,O,ih,I,T,U];grind
 ·simp[E,H,J,aI,h,D,M,O,ih,I,T]
theorem aiV{l:List Ex}(V:l.length<100000000){i:Nat}{x:Ex}(E:i<l.length)(H:l[i]=x)(D:KF (dq x))(Y:(dq x).length<100000000)(k:Kt)(R1 R2:b7)(B:Bool)
 (I:∀v X,k .ret ⟨126,aD,[(2,true,.d (.bool false))],[⟨300,v,X⟩]⟩=R1)
 (ih:∀v X,aO ctx 87 (.loop (Code.at (bg f87) [1,0,1,0,0])) ⟨126,aD,[(0,true,.d (.list (l.map cj))),(3,true,.d (.int .i64 (i+1)))],[⟨300,v,X⟩]⟩ k=if B=true then R2 else R1) (h:cq x=5) (v:Nat) (X:aJ):
 aO ctx 87 (.loop (Code.at (bg f87) [1,0,1,0,0])) ⟨126,aD,[(0,true,.d (.list (l.map cj))),(3,true,.d (.int .i64 i))],[⟨300,v,X⟩]⟩ k=if (bC x&&B)=true then R2 else R1:=by
 have J:IntKind.i64.wrap ((i:Int)+1)=i+1:=aA (by unfold aY;omega);have M:=fM (ew x);have O:=fM (gK x);unfold KF at D;rw[rF];generalize bO (dq x)=S at*;generalize dK (ew x)=N at*;generalize dK (gK x)=F at*;rw[ag];simp[f87]at ih⊢;have U:eF 5=0:=rfl;by_cases T:jG x=0
 ·simp[E,H,J,aI,h,D,M,O,ih,I,T,U];grind
 ·simp[E,H,J,aI,h,D,M,O,ih,I,T]
theorem aiW{l:List Ex}(V:l.length<100000000){i:Nat}{x:Ex}(E:i<l.length)(H:l[i]=x)(D:KF (dq x))(Y:(dq x).length<100000000)(k:Kt)(R1 R2:b7)(B:Bool)
 (I:∀v X,k .ret ⟨126,aD,[(2,true,.d (.bool false))],[⟨300,v,X⟩]⟩=R1)
 (ih:∀v X,aO ctx 87 (.loop (Code.at (bg f87) [1,0,1,0,0])) ⟨126,aD,[(0,true,.d (.list (l.map cj))),(3,true,.d (.int .i64 (i+1)))],[⟨300,v,X⟩]⟩ k=if B=true then R2 else R1) (h:cq x=6) (v:Nat) (X:aJ):
 aO ctx 87 (.loop (Code.at (bg f87) [1,0,1,0,0])) ⟨126,aD,[(0,true,.d (.list (l.map cj))),(3,true,.d (.int .i64 i))],[⟨300,v,X⟩]⟩ k=if (bC x&&B)=true then R2 else R1:=by
 have J:IntKind.i64.wrap ((i:Int)+1)=i+1:=aA (by unfold aY;omega);have M:=fM (ew x);have O:=fM (gK x);unfold KF at D;rw[rF];generalize bO (dq x)=S at*;generalize dK (ew x)=N at*;generalize dK (gK x)=F at*;rw[ag];simp[f87]at ih⊢;have U:eF 6=1:=rfl;by_cases T:jG x=0
 ·simp[E,H,J,aI,h,D,M,O,ih,I,T,U];grind
 ·simp[E,H,J,aI,h,D,M,O,ih,I,T]
theorem aiX{l:List Ex}(V:l.length<100000000){i:Nat}{x:Ex}(E:i<l.length)(H:l[i]=x)(D:KF (dq x))(Y:(dq x).length<100000000)(k:Kt)(R1 R2:b7)(B:Bool)
 (I:∀v X,k .ret ⟨126,aD,[(2,true,.d (.bool false))],[⟨300,v,X⟩]⟩=R1)
 (ih:∀v X,aO ctx 87 (.loop (Code.at (bg f87) [1,0,1,0,0])) ⟨126,aD,[(0,true,.d (.list (l.map cj))),(3,true,.d (.int .i64 (i+1)))],[⟨300,v,X⟩]⟩ k=if B=true then R2 else R1) (h:cq x=7) (v:Nat) (X:aJ):
 aO ctx 87 (.loop (Code.at (bg f87) [1,0,1,0,0])) ⟨126,aD,[(0,true,.d (.list (l.map cj))),(3,true,.d (.int .i64 i))],[⟨300,v,X⟩]⟩ k=if (bC x&&B)=true then R2 else R1:=by
 have J:IntKind.i64.wrap ((i:Int)+1)=i+1:=aA (by unfold aY;omega);have M:=fM (ew x);have O:=fM (gK x);unfold KF at D;rw[rF];generalize bO (dq x)=S at*;generalize dK (ew x)=N at*;generalize dK (gK x)=F at*;rw[ag];simp[f87]at ih⊢;have U:eF 7=1:=rfl;by_cases T:jG x=0
 ·simp[E,H,J,aI,h,D,M,O,ih,I,T,U];grind
 ·simp[E,H,J,aI,h,D,M,O,ih,I,T]
theorem aiY{l:List Ex}(V:l.length<100000000){i:Nat}{x:Ex}(E:i<l.length)(H:l[i]=x)(D:KF (dq x))(Y:(dq x).length<100000000)(k:Kt)(R1 R2:b7)(B:Bool)
 (I:∀v X,k .ret ⟨126,aD,[(2,true,.d (.bool false))],[⟨300,v,X⟩]⟩=R1)
 (ih:∀v X,aO ctx 87 (.loop (Code.at (bg f87) [1,0,1,0,0])) ⟨126,aD,[(0,true,.d (.list (l.map cj))),(3,true,.d (.int .i64 (i+1)))],[⟨300,v,X⟩]⟩ k=if B=true then R2 else R1) (h:7<cq x) (v:Nat) (X:aJ):
 aO ctx 87 (.loop (Code.at (bg f87) [1,0,1,0,0])) ⟨126,aD,[(0,true,.d (.list (l.map cj))),(3,true,.d (.int .i64 i))],[⟨300,v,X⟩]⟩ k=if (bC x&&B)=true then R2 else R1:=by
 have J:IntKind.i64.wrap ((i:Int)+1)=i+1:=aA (by unfold aY;omega);have M:=fM (ew x);have O:=fM (gK x);unfold KF at D;rw[rF];generalize bO (dq x)=S at*;generalize dK (ew x)=N at*;generalize dK (gK x)=F at*;have Z:¬cq x=1:=by omega
 have c:¬cq x=2:=by omega
 have A':¬cq x=3:=by omega
 have A0:¬cq x=4:=by omega
 have A1:¬cq x=5:=by omega
 have A2:¬cq x=6:=by omega
 have A3:¬cq x=7:=by omega
 have d1:2<cq x:=by omega
 have d2:¬cq x<1:=by omega
 have U:eF (cq x)=2:=by unfold eF;rw[ach (by omega),acs h]
 rw[ag];simp[f87]at ih⊢;by_cases T:jG x=0
 ·by_cases A4:21<cq x
  ·simp[E,H,J,aI,h,D,M,O,ih,I,T,A4,Z,c,A',A0,A1,A2,A3,d1,d2];intros;omega
  ·simp[E,H,J,aI,h,D,M,O,ih,I,T,A4,U,Z,c,A',A0,A1,A2,A3,d1,d2];grind
 ·simp[E,H,J,aI,h,D,M,O,ih,I,T,Z,c,d1];intros;omega
theorem Jy(l:List Ex)(D:l.length<100000000)(Z:∀x∈l,KF (dq x))(T:∀x∈l,(dq x).length<100000000)(k:Kt)(R1 R2:b7)
 (E:∀v X,k .ret ⟨126,aD,[(2,true,.d (.bool false))],[⟨300,v,X⟩]⟩=R1)
 (V:∀(Y:Env) v X,k (.exit 0) ⟨126,aD,Y,[⟨300,v,X⟩]⟩=R2):∀(rest pre:List Ex)(v:Nat)(X:aJ),l=pre++rest->
 aO ctx 87 (.loop (Code.at (bg f87) [1,0,1,0,0])) ⟨126,aD,[(0,true,.d (.list (l.map cj))),(3,true,.d (.int .i64 pre.length))],[⟨300,v,X⟩]⟩ k=if bO rest=true then R2 else R1
 |[],pre,v,X,U=>by
  have c:pre.length=l.length:=by rw[U];simp
  rw[c,ag];simp[f87,V,bO]
 |x::rest,pre,v,X,U=>by
  have I:pre.length<l.length:=by rw[U];simp
  have J:l[pre.length]=x:=by simp[U]
  have M:=Z x (by rw[U];simp);have O:=T x (by rw[U];simp);have ih:∀v X,aO ctx 87 (.loop (Code.at (bg f87) [1,0,1,0,0])) ⟨126,aD,[(0,true,.d (.list (l.map cj))),(3,true,.d (.int .i64 (pre.length+1)))],[⟨300,v,X⟩]⟩ k=if bO rest=true then R2 else R1:=λv X=>by
   have:=Jy l D Z T k R1 R2 E V rest (pre++[x]) v X (by simp[U]);simpa using this
  have key:bO (x::rest)=(bC x&&bO rest):=by rw[bO]
  rw[key];have A':cq x<1\/cq x=1\/cq x=2\/cq x=3\/cq x=4\/cq x=5\/cq x=6\/cq x=7\/7<cq x:=by omega
  rcases A' with h|h|h|h|h|h|h|h|h
  ·exact aiQ D I J M O k R1 R2 _ E ih h v X
  ·exact aiR D I J M O k R1 R2 _ E ih h v X
  ·exact aiS D I J M O k R1 R2 _ E ih h v X
  ·exact aiT D I J M O k R1 R2 _ E ih h v X
  ·exact aiU D I J M O k R1 R2 _ E ih h v X
  ·exact aiV D I J M O k R1 R2 _ E ih h v X
  ·exact aiW D I J M O k R1 R2 _ E ih h v X
  ·exact aiX D I J M O k R1 R2 _ E ih h v X
  ·exact aiY D I J M O k R1 R2 _ E ih h v X
theorem XQ{l:List Ex}(D:l.length<100000000)(Z:∀x∈l,KF (dq x))(T:∀x∈l,(dq x).length<100000000):KF l:=by
 have h:=λk R1 R2 E V v X=>Jy l D Z T k R1 R2 E V l [] v X rfl;unfold KF;rw[anZ (by simp)];simp[f87]at h⊢;rw[h _ (some (.ret (.d (.bool false)),[])) (some (.ret (.d (.bool true)),[]))]
 ·cases bO l<;>simp
 ·intro v X;simp
 ·intro Y v X;simp
mutual
def zb:Ex->Prop
 | .mk _ _ name field sub _=>(name.length<100000000/\field.length<100000000/\sub.length<100000000)/\rG sub
def rG:List Ex->Prop
 |[]=>True
 |x::r=>zb x/\rG r
end
mutual
theorem aiZ:∀x:Ex,zb x->KF (dq x)/\(dq x).length<100000000
 | .mk op nn name field sub line,h=>by
  simp only[zb]at h;have T:=Dw sub h.2;exact⟨XQ h.1.2.2 (λx H=>(T x H).1) (λx H=>(T x H).2),h.1.2.2⟩
theorem Dw:∀l:List Ex,rG l->∀x∈l,KF (dq x)/\(dq x).length<100000000
 |[],_,x,H=>by simp at H
 |y::r,h,x,H=>by
  simp only[rG]at h;have E:=aiZ y h.1;have V:=Dw r h.2;rcases aco.1 H with e|H
  ·rw[e];exact E
  ·exact V x H
end
theorem E8{l:List Ex}(D:l.length<100000000)(h:rG l):KF l:=
 XQ D (λx H=>(Dw l h x H).1) (λx H=>(Dw l h x H).2)
end Go.Am
end
section
namespace Go.Am
open Go
theorem QV{k:Int}(h:rC k=true):10<=k/\k<=31:=by
 unfold rC bI at h;by_cases D:10<=k/\k<=31
 ·exact D
 ·exfalso;have:u9 MD k=[]:=by
   unfold MD;simp only[u9];repeat rw[ach (by omega)]
  rw[this]at h;simp at h
theorem Ij{v:Vr}(h:dQ v=true):(v.ty=1\/v.ty=2)\/(10<=v.ty/\v.ty<=31/\rC v.ty=true):=by
 simp only[dQ,Ds,agv,acn]at h;rcases h.2.1.2 with h|h
 ·exact .inl h
 ·exact .inr ⟨(QV h).1,(QV h).2,h⟩
theorem ub{s:Tx}{v:Vr}:∀{l:List Vr},bq l s=some v->v∈l/\v.name=s
 |x::r,h=>by
  unfold bq at h;split at h
  ·rename_i e;cases h;exact⟨by simp,e⟩
  ·have:=ub h;exact⟨by simp[this.1],this.2⟩
end Go.Am
end
section
namespace Go.Am
open Go Go.Proofs
variable [Inhabited b9]
set_option maxRecDepth 20000
@[simp] def smL(x:Sm):List D:=[.int .i64 (bJ x),.str (jt x),
 .int .i64 (cq (fG x)),.int .i64 (jG (fG x)),.str (ew (fG x)),.str (gK (fG x)),.list ((dq (fG x)).map cj),.int .i64 (lJ (fG x)),
 .int .i64 (cq (eJ x)),.int .i64 (jG (eJ x)),.str (ew (eJ x)),.str (gK (eJ x)),.list ((dq (eJ x)).map cj),.int .i64 (lJ (eJ x)),
 .list ((cV x).map cj),.list ((ff x).map pt),.list ((eS x).map .str),.list ((bG x).map dR),.int .i64 (mJ x)]
section
variable {vs:List Vr} {n:Int} (E:vs.length<1000000) (H:∀v∈vs,dQ v=true)
include E H
end
end Go.Am
end
section
namespace Go.Am
open Go Go.Proofs Go.Proofs.Tryz
variable [Inhabited b9]
set_option maxRecDepth 20000
@[simp] def bx(x:Sm):aJ:=.box [.d (.int .i64 (bJ x)),.d (.str (jt x)),.d (.int .i64 (cq (fG x))),.d (.int .i64 (jG (fG x))),.d (.str (ew (fG x))),.d (.str (gK (fG x))),.d (.list ((dq (fG x)).map cj)),.d (.int .i64 (lJ (fG x))),
 .d (.int .i64 (cq (eJ x))),.d (.int .i64 (jG (eJ x))),.d (.str (ew (eJ x))),.d (.str (gK (eJ x))),.d (.list ((dq (eJ x)).map cj)),.d (.int .i64 (lJ (eJ x))),.d (.list ((cV x).map cj)),.d (.list ((ff x).map pt)),.d (.list ((eS x).map .str)),.d (.list ((bG x).map dR)),.d (.int .i64 (mJ x))]
@[simp] def jH(v:Vr):aJ:=.box [.d (.str v.name),.d (.int .i64 v.ty),.d (.int .i64 v.sec),.d (.bool v.arr),.d (.int .i64 v.lo),.d (.int .i64 v.hi),.d (.int .i64 v.init),.d (.int .i64 v.line)]
theorem MF{v:Vr}(E:dQ v=true):ai ctx 90 [.d (b8 v)] []=some (.ret (.d (.int .i64 (bX v))),[]):=by
 have I:=QT v.ty;rw[an1 (by simp)];unfold bX;cases D:v.arr with
 |true=>
  simp only[dQ,Ds,D,adZ,acn]at E;have J:IntKind.i64.wrap (v.hi-v.lo)=v.hi-v.lo:=aA (by unfold aY;omega);have M:IntKind.i64.wrap (v.hi-v.lo+1)=v.hi-v.lo+1:=aA (by unfold aY;omega);simp[f90,b8,fB,D,J,M]
 |false=>
  by_cases H:2<v.ty
  ·simp[f90,b8,fB,D,H,I]
  ·simp[f90,b8,fB,D,H]
theorem tc{v:Vr}(E:dQ v=true):0<=bX v/\bX v<=256:=by
 have:=Cw v.ty;unfold bX;cases D:v.arr with
 |true=>
  simp only[dQ,Ds,D,adZ,acn]at E;simp only[adZ];omega
 |false=>
  simp only[agF,adY];split<;>omega
@[reducible] noncomputable def cu(p:List Nat):Code:=Code.at (bg f46) p
section
variable {x:Sm} {v:Nat} {k:Kt} {R1:b7} {a b:AV} (D:k .ret ⟨258,aD,[(2,true,.d (.bool false))],[⟨300,v,bx x⟩]⟩=R1)
def MG(x:Sm):Bool:=decide (1<=bJ x/\bJ x<=9)&&(if bJ x=4\/bJ x=9 then dK (jt x)else decide (jt x=[]))
def MH(x:Sm):Bool:=if bJ x=1 then decide (cq (fG x)=3\/cq (fG x)=4)&&bC (fG x)else eG (fG x)
def Ik(x:Sm):Bool:=(if bJ x=1\/bJ x=3\/bJ x=5\/bJ x=6 then !eG (eJ x)&&bC (eJ x)else eG (eJ x))&&bO (cV x)
include D
theorem at6{d6 d7:AV}:aO ctx 46 (cu [1,0,1,0,0,1,0,0,1,1,0]) ⟨258,aD,[(0,true,a),(3,true,b),(4,true,.ptr 300 v 0),(5,true,.d (.bool (decide (bJ x=4\/bJ x=9)))),(6,true,d6),(7,true,d7)],[⟨300,v,bx x⟩]⟩ k=
 if MG x=true then k .normal ⟨258,aD,[(0,true,a),(3,true,b),(4,true,.ptr 300 v 0),(6,true,d6),(7,true,d7),(59,true,.d (.bool false))],[⟨300,v,bx x⟩]⟩else R1:=by
 have O:=fM (jt x);unfold MG;simp only[bx]at D;generalize dK (jt x)=N at*;by_cases E:bJ x<1
 ·have M:¬1<=bJ x:=by omega
  simp[cu,f46];simp[E,M,D]
 ·have M:1<=bJ x:=by omega
  by_cases V:9<bJ x
  ·have H:¬bJ x<=9:=by omega
   simp[cu,f46];simp[E,M,V,H,D]
  ·have H:bJ x<=9:=by omega
   by_cases I:bJ x=4
   ·simp only[I]at D⊢;cases N<;>(simp[cu,f46];simp[I,O,D])
   ·by_cases U:bJ x=9
    ·simp only[U]at D⊢;cases N<;>(simp[cu,f46];simp[U,O,D])
    ·by_cases he:jt x=[]
     ·simp only[he]at D⊢;simp[cu,f46];simp[E,M,V,H,I,U,he,D]
     ·simp[cu,f46];simp[E,M,V,H,I,U,he,D]
theorem at7{d7:AV}(Y:(ew (fG x)).length<100000000/\(gK (fG x)).length<100000000/\(dq (fG x)).length<100000000)(J:KF [fG x]):aO ctx 46 (cu [1,0,1,0,0,1,0,0,1,1,1,0]) ⟨258,aD,[(0,true,a),(3,true,b),(4,true,.ptr 300 v 0),(6,true,.d (.bool (decide (bJ x=1)))),(7,true,d7),(59,true,.d (.bool false))],[⟨300,v,bx x⟩]⟩ k=
 if MH x=true then k .normal ⟨258,aD,[(0,true,a),(3,true,b),(4,true,.ptr 300 v 0),(7,true,d7),(89,true,.d (.bool false))],[⟨300,v,bx x⟩]⟩else R1:=by
 have O:=QU Y;unfold KF at J;simp[aI,bO]at J;unfold MH;simp only[bx]at D;generalize eG (fG x)=N at*;generalize bC (fG x)=T at*;by_cases E:bJ x=1
 ·simp only[E]at D;by_cases H:cq (fG x)=3
  ·simp only[H]at D J;cases T<;>(simp[cu,f46];simp[E,H,J,D])
  ·by_cases I:cq (fG x)=4
   ·simp only[I]at D J;cases T<;>(simp[cu,f46];simp[E,I,J,D])
   ·simp[cu,f46];simp[E,H,I,D]
 ·cases N<;>(simp[cu,f46];simp[E,O,D])
end
section
variable {x:Sm} {v:Nat} {k:Kt} {R1:b7} {a b:AV}
theorem aua(D:k .ret ⟨258,aD,[(2,true,.d (.bool false))],[⟨300,v,bx x⟩]⟩=R1){V:Bool}(A6:V=decide (bJ x=1\/bJ x=3\/bJ x=5\/bJ x=6))(A7:(ew (eJ x)).length<100000000/\(gK (eJ x)).length<100000000/\(dq (eJ x)).length<100000000)(A3:KF [eJ x])(A4:KF (cV x)):aO ctx 46 (cu [1,0,1,0,0,1,0,0,1,1,1,1,0]) ⟨258,aD,[(0,true,a),(3,true,b),(4,true,.ptr 300 v 0),(7,true,.d (.bool V)),(89,true,.d (.bool false))],[⟨300,v,bx x⟩]⟩ k=
 if Ik x=true then k .normal ⟨258,aD,[(0,true,a),(3,true,b),(4,true,.ptr 300 v 0),(118,true,.d (.bool false))],[⟨300,v,bx x⟩]⟩else R1:=by
 have A5:=QU A7;unfold KF at A3 A4;simp[aI,bO]at A3;have e:Ik x=((if V=true then !eG (eJ x)&&bC (eJ x)else eG (eJ x))&&bO (cV x)):=by
  unfold Ik;rw[A6];by_cases h:bJ x=1\/bJ x=3\/bJ x=5\/bJ x=6
  ·rw[acs h,acs (by simpa using h)]
  ·rw[ach h,ach (by simpa using h)]
 rw[e];simp only[bx]at D;generalize eG (eJ x)=N at*;generalize bC (eJ x)=T at*;generalize bO (cV x)=W at*;clear A6 e;cases V with
 |true=>
  cases N with
  |true=>(simp[cu,f46];simp[A5,D])
  |false=>cases T<;>cases W<;>(simp[cu,f46];simp[A5,A3,A4,D])
 |false=>cases N<;>cases W<;>(simp[cu,f46];simp[A5,A4,D])
theorem aub{X:Env}:aO ctx 46 (cu [1,0,1,0,0,1,0,0,1,1,1,1,1,0]) ⟨258,aD,[(0,true,a),(3,true,b),(4,true,.ptr 300 v 0),(118,true,.d (.bool false))],[⟨300,v,bx x⟩]⟩ k=
 k .normal ⟨258,aD,[(0,true,a),(3,true,b),(4,true,.ptr 300 v 0),(8,true,.d (.int .i64 0)),(9,true,.d (.int .i64 0)),(10,true,.d (.int .i64 0)),(11,true,.d (.int .i64 0)),(12,true,.d (.int .i64 0))],[⟨300,v,bx x⟩]⟩:=by
 simp[cu,f46]
def Cx(n:Int):Int:=if 1<n then n else 1
def r6(x:Sm):Int:=if bJ x=2 then Cx (cV x).length else if bJ x=4 then 3 else if bJ x=9 then (eS x).length else 0
def r9(x:Sm):Int:=if bJ x=3 then (ff x).length else 0
def nO(x:Sm):Int:=if bJ x=9 then (eS x).length else 0
def kp(x:Sm):Int:=if bJ x=2 then Cx (cV x).length else if bJ x=3 then (ff x).length else if bJ x=4\/bJ x=5\/bJ x=6 then 1 else 0
def kP(x:Sm):Int:=if bJ x=2\/bJ x=3 then 1 else 0
def cX(x:Sm):Env:=if bJ x=2\/bJ x=3\/bJ x=4\/bJ x=5\/bJ x=6\/bJ x=9 then []else [(144,true,.d (.bool false))]
theorem ai1(c:bJ x=2):aO ctx 46 (cu [1,0,1,0,0,1,0,0,1,1,1,1,1,1,0]) ⟨258,aD,[(0,true,a),(3,true,b),(4,true,.ptr 300 v 0),(8,true,.d (.int .i64 0)),(9,true,.d (.int .i64 0)),(10,true,.d (.int .i64 0)),(11,true,.d (.int .i64 0)),(12,true,.d (.int .i64 0))],[⟨300,v,bx x⟩]⟩ k=
 k .normal ⟨258,aD,[(0,true,a),(3,true,b),(4,true,.ptr 300 v 0),(8,true,.d (.int .i64 (r6 x))),(9,true,.d (.int .i64 (r9 x))),(10,true,.d (.int .i64 (nO x))),(11,true,.d (.int .i64 (kp x))),(12,true,.d (.int .i64 (kP x)))]++cX x,[⟨300,v,bx x⟩]⟩:=by
 unfold r6 r9 nO kp kP cX;simp[cu,f46];simp[c,ay,Cx]
theorem ai2(y:bJ x=3):aO ctx 46 (cu [1,0,1,0,0,1,0,0,1,1,1,1,1,1,0]) ⟨258,aD,[(0,true,a),(3,true,b),(4,true,.ptr 300 v 0),(8,true,.d (.int .i64 0)),(9,true,.d (.int .i64 0)),(10,true,.d (.int .i64 0)),(11,true,.d (.int .i64 0)),(12,true,.d (.int .i64 0))],[⟨300,v,bx x⟩]⟩ k=
 k .normal ⟨258,aD,[(0,true,a),(3,true,b),(4,true,.ptr 300 v 0),(8,true,.d (.int .i64 (r6 x))),(9,true,.d (.int .i64 (r9 x))),(10,true,.d (.int .i64 (nO x))),(11,true,.d (.int .i64 (kp x))),(12,true,.d (.int .i64 (kP x)))]++cX x,[⟨300,v,bx x⟩]⟩:=by
 unfold r6 r9 nO kp kP cX;simp[cu,f46];simp[y,ay,Cx]
theorem ai3(A':bJ x=4):aO ctx 46 (cu [1,0,1,0,0,1,0,0,1,1,1,1,1,1,0]) ⟨258,aD,[(0,true,a),(3,true,b),(4,true,.ptr 300 v 0),(8,true,.d (.int .i64 0)),(9,true,.d (.int .i64 0)),(10,true,.d (.int .i64 0)),(11,true,.d (.int .i64 0)),(12,true,.d (.int .i64 0))],[⟨300,v,bx x⟩]⟩ k=
 k .normal ⟨258,aD,[(0,true,a),(3,true,b),(4,true,.ptr 300 v 0),(8,true,.d (.int .i64 (r6 x))),(9,true,.d (.int .i64 (r9 x))),(10,true,.d (.int .i64 (nO x))),(11,true,.d (.int .i64 (kp x))),(12,true,.d (.int .i64 (kP x)))]++cX x,[⟨300,v,bx x⟩]⟩:=by
 unfold r6 r9 nO kp kP cX;simp[cu,f46];simp[A',ay,Cx]
theorem ai4(A0:bJ x=5):aO ctx 46 (cu [1,0,1,0,0,1,0,0,1,1,1,1,1,1,0]) ⟨258,aD,[(0,true,a),(3,true,b),(4,true,.ptr 300 v 0),(8,true,.d (.int .i64 0)),(9,true,.d (.int .i64 0)),(10,true,.d (.int .i64 0)),(11,true,.d (.int .i64 0)),(12,true,.d (.int .i64 0))],[⟨300,v,bx x⟩]⟩ k=
 k .normal ⟨258,aD,[(0,true,a),(3,true,b),(4,true,.ptr 300 v 0),(8,true,.d (.int .i64 (r6 x))),(9,true,.d (.int .i64 (r9 x))),(10,true,.d (.int .i64 (nO x))),(11,true,.d (.int .i64 (kp x))),(12,true,.d (.int .i64 (kP x)))]++cX x,[⟨300,v,bx x⟩]⟩:=by
 unfold r6 r9 nO kp kP cX;simp[cu,f46];simp[A0,ay,Cx]
theorem ai5(A1:bJ x=6):aO ctx 46 (cu [1,0,1,0,0,1,0,0,1,1,1,1,1,1,0]) ⟨258,aD,[(0,true,a),(3,true,b),(4,true,.ptr 300 v 0),(8,true,.d (.int .i64 0)),(9,true,.d (.int .i64 0)),(10,true,.d (.int .i64 0)),(11,true,.d (.int .i64 0)),(12,true,.d (.int .i64 0))],[⟨300,v,bx x⟩]⟩ k=
 k .normal ⟨258,aD,[(0,true,a),(3,true,b),(4,true,.ptr 300 v 0),(8,true,.d (.int .i64 (r6 x))),(9,true,.d (.int .i64 (r9 x))),(10,true,.d (.int .i64 (nO x))),(11,true,.d (.int .i64 (kp x))),(12,true,.d (.int .i64 (kP x)))]++cX x,[⟨300,v,bx x⟩]⟩:=by
 unfold r6 r9 nO kp kP cX;simp[cu,f46];simp[A1,ay,Cx]
theorem ai6(E:bJ x=9):aO ctx 46 (cu [1,0,1,0,0,1,0,0,1,1,1,1,1,1,0]) ⟨258,aD,[(0,true,a),(3,true,b),(4,true,.ptr 300 v 0),(8,true,.d (.int .i64 0)),(9,true,.d (.int .i64 0)),(10,true,.d (.int .i64 0)),(11,true,.d (.int .i64 0)),(12,true,.d (.int .i64 0))],[⟨300,v,bx x⟩]⟩ k=
 k .normal ⟨258,aD,[(0,true,a),(3,true,b),(4,true,.ptr 300 v 0),(8,true,.d (.int .i64 (r6 x))),(9,true,.d (.int .i64 (r9 x))),(10,true,.d (.int .i64 (nO x))),(11,true,.d (.int .i64 (kp x))),(12,true,.d (.int .i64 (kP x)))]++cX x,[⟨300,v,bx x⟩]⟩:=by
 unfold r6 r9 nO kp kP cX;simp[cu,f46];simp[E,ay,Cx]
theorem ai7(c:¬bJ x=2)(y:¬bJ x=3)(A':¬bJ x=4)(A0:¬bJ x=5)(A1:¬bJ x=6)(E:¬bJ x=9):aO ctx 46 (cu [1,0,1,0,0,1,0,0,1,1,1,1,1,1,0]) ⟨258,aD,[(0,true,a),(3,true,b),(4,true,.ptr 300 v 0),(8,true,.d (.int .i64 0)),(9,true,.d (.int .i64 0)),(10,true,.d (.int .i64 0)),(11,true,.d (.int .i64 0)),(12,true,.d (.int .i64 0))],[⟨300,v,bx x⟩]⟩ k=
 k .normal ⟨258,aD,[(0,true,a),(3,true,b),(4,true,.ptr 300 v 0),(8,true,.d (.int .i64 (r6 x))),(9,true,.d (.int .i64 (r9 x))),(10,true,.d (.int .i64 (nO x))),(11,true,.d (.int .i64 (kp x))),(12,true,.d (.int .i64 (kP x)))]++cX x,[⟨300,v,bx x⟩]⟩:=by
 unfold r6 r9 nO kp kP cX;simp[cu,f46];simp[c,y,A',A0,A1,E,ay,Cx]
theorem auc:aO ctx 46 (cu [1,0,1,0,0,1,0,0,1,1,1,1,1,1,0]) ⟨258,aD,[(0,true,a),(3,true,b),(4,true,.ptr 300 v 0),(8,true,.d (.int .i64 0)),(9,true,.d (.int .i64 0)),(10,true,.d (.int .i64 0)),(11,true,.d (.int .i64 0)),(12,true,.d (.int .i64 0))],[⟨300,v,bx x⟩]⟩ k=
 k .normal ⟨258,aD,[(0,true,a),(3,true,b),(4,true,.ptr 300 v 0),(8,true,.d (.int .i64 (r6 x))),(9,true,.d (.int .i64 (r9 x))),(10,true,.d (.int .i64 (nO x))),(11,true,.d (.int .i64 (kp x))),(12,true,.d (.int .i64 (kP x)))]++cX x,[⟨300,v,bx x⟩]⟩:=by
 by_cases c:bJ x=2
 ·exact ai1 c
 ·by_cases y:bJ x=3
  ·exact ai2 y
  ·by_cases A':bJ x=4
   ·exact ai3 A'
   ·by_cases A0:bJ x=5
    ·exact ai4 A0
    ·by_cases A1:bJ x=6
     ·exact ai5 A1
     ·by_cases E:bJ x=9
      ·exact ai6 E
      ·exact ai7 c y A' A0 A1 E
theorem aoa(D:k .ret ⟨258,aD,[(2,true,.d (.bool false))],[⟨300,v,bx x⟩]⟩=R1){O U Y H J:Int}(hw:IntKind.i64.wrap (H+J)=H+J):aO ctx 46 (cu [1,0,1,0,0,1,0,0,1,1,1,1,1,1,1,0]) ⟨258,aD,[(0,true,a),(3,true,b),(4,true,.ptr 300 v 0),(8,true,.d (.int .i64 O)),(9,true,.d (.int .i64 U)),(10,true,.d (.int .i64 Y)),(11,true,.d (.int .i64 H)),(12,true,.d (.int .i64 J))],[⟨300,v,bx x⟩]⟩ k=
 if (((cV x).length:Int)=O/\((ff x).length:Int)=U/\((eS x).length:Int)=Y/\¬((bG x).length:Int)<H/\¬H+J<((bG x).length:Int))then k .normal ⟨258,aD,[(0,true,a),(3,true,b),(4,true,.ptr 300 v 0),(186,true,.d (.bool false))],[⟨300,v,bx x⟩]⟩else R1:=by
 simp only[bx]at D;by_cases I:((cV x).length:Int)=O
 ·by_cases E:((ff x).length:Int)=U
  ·by_cases M:((eS x).length:Int)=Y
   ·by_cases Z:((bG x).length:Int)<H
    ·(simp[cu,f46];simp[I,E,M,Z,D];intros;exfalso;omega)
    ·by_cases A2:H+J<((bG x).length:Int)
     ·(simp[cu,f46];simp[I,E,M,Z,hw,A2,D];intros;exfalso;omega)
     ·(simp[cu,f46];simp[I,E,M,Z,hw,A2,D])
   ·(simp[cu,f46];simp[I,E,M,D])
  ·(simp[cu,f46];simp[I,E,D])
 ·(simp[cu,f46];simp[I,D])
theorem aob(D:k .ret ⟨258,aD,[(2,true,.d (.bool false))],[⟨300,v,bx x⟩]⟩=R1){O U Y H J:Int}(hw:IntKind.i64.wrap (H+J)=H+J):aO ctx 46 (cu [1,0,1,0,0,1,0,0,1,1,1,1,1,1,1,0]) ⟨258,aD,[(0,true,a),(3,true,b),(4,true,.ptr 300 v 0),(8,true,.d (.int .i64 O)),(9,true,.d (.int .i64 U)),(10,true,.d (.int .i64 Y)),(11,true,.d (.int .i64 H)),(12,true,.d (.int .i64 J)),(144,true,.d (.bool false))],[⟨300,v,bx x⟩]⟩ k=
 if (((cV x).length:Int)=O/\((ff x).length:Int)=U/\((eS x).length:Int)=Y/\¬((bG x).length:Int)<H/\¬H+J<((bG x).length:Int))then k .normal ⟨258,aD,[(0,true,a),(3,true,b),(4,true,.ptr 300 v 0),(186,true,.d (.bool false))],[⟨300,v,bx x⟩]⟩else R1:=by
 simp only[bx]at D;by_cases I:((cV x).length:Int)=O
 ·by_cases E:((ff x).length:Int)=U
  ·by_cases M:((eS x).length:Int)=Y
   ·by_cases Z:((bG x).length:Int)<H
    ·(simp[cu,f46];simp[I,E,M,Z,D];intros;exfalso;omega)
    ·by_cases A2:H+J<((bG x).length:Int)
     ·(simp[cu,f46];simp[I,E,M,Z,hw,A2,D];intros;exfalso;omega)
     ·(simp[cu,f46];simp[I,E,M,Z,hw,A2,D])
   ·(simp[cu,f46];simp[I,E,M,D])
  ·(simp[cu,f46];simp[I,E,D])
 ·(simp[cu,f46];simp[I,D])
end
def KS(b:List Sm):Prop:=ai ctx 46 [.d (.list (b.map dc))] []=some (.ret (.d (.bool (eP b))),[])
section
variable {x:Sm} {v:Nat} {k:Kt} {R1 R2:b7} {a b:AV}
theorem MJ(O:(eS x).length<100000000)(E:k .ret ⟨258,aD,[(2,true,.d (.bool false))],[⟨300,v,bx x⟩]⟩=R1)
 (H:k (.exit 3) ⟨258,aD,[(0,true,a),(3,true,b),(4,true,.ptr 300 v 0),(13,true,.d (.int .i64 (eS x).length)),(191,true,.d (.bool false))],[⟨300,v,bx x⟩]⟩=R2):∀(rest pre:List Tx),eS x=pre++rest->
 aO ctx 46 (.loop (cu [1,0,1,0,0,1,0,0,1,1,1,1,1,1,1,1,0,1,0,0])) ⟨258,aD,[(0,true,a),(3,true,b),(4,true,.ptr 300 v 0),(13,true,.d (.int .i64 pre.length))],[⟨300,v,bx x⟩]⟩ k=if rest.all dK=true then R2 else R1
 |[],pre,D=>by
  have T:pre.length=(eS x).length:=by rw[D];simp
  simp only[bx]at H;rw[T,ag];simp[cu,f46,H]
 |c::rest,pre,D=>by
  have I:pre.length<(eS x).length:=by rw[D];simp
  have J:(eS x)[pre.length]=c:=by simp[D]
  have ih:=MJ O E H rest (pre++[c]) (by simp[D]);have M:=fM c;have U:IntKind.i64.wrap ((pre.length:Int)+1)=(pre.length:Int)+1:=aA (by unfold aY;omega);simp only[bx]at E;rw[agZ];generalize dK c=N at*;rw[ag];cases N with
  |true=>
   simp[cu,f46]at ih⊢;simp[I,J,M,U,ih]
  |false=>
   simp[cu,f46];simp[I,J,M,E]
theorem MK{l:List Int}{i:Nat}(hi:i<(ff x).length)(V:(ff x)[i]=l)(O:l.length<100000000)(E:k .ret ⟨258,aD,[(2,true,.d (.bool false))],[⟨300,v,bx x⟩]⟩=R1)
 (H:k (.exit 7) ⟨258,aD,[(0,true,a),(3,true,b),(4,true,.ptr 300 v 0),(14,true,.d (.int .i64 i)),(15,true,.d (.int .i64 l.length)),(232,true,.d (.bool false))],[⟨300,v,bx x⟩]⟩=R2):∀(rest pre:List Int),l=pre++rest->
 aO ctx 46 (.loop (cu [1,0,1,0,0,1,0,0,1,1,1,1,1,1,1,1,1,0,1,0,0,1,0,0,1,1,0,0])) ⟨258,aD,[(0,true,a),(3,true,b),(4,true,.ptr 300 v 0),(14,true,.d (.int .i64 i)),(15,true,.d (.int .i64 pre.length))],[⟨300,v,bx x⟩]⟩ k=if rest.all (λn=>decide (n≠ -9223372036854775808))=true then R2 else R1
 |[],pre,D=>by
  have T:pre.length=l.length:=by rw[D];simp
  simp only[bx]at H;rw[T,ag];simp[cu,f46];simp[hi,V,pt,H]
 |c::rest,pre,D=>by
  have I:pre.length<l.length:=by rw[D];simp
  have J:l[pre.length]=c:=by simp[D]
  have ih:=MK hi V O E H rest (pre++[c]) (by simp[D]);have U:IntKind.i64.wrap ((pre.length:Int)+1)=(pre.length:Int)+1:=aA (by unfold aY;omega);simp only[bx]at E;rw[agZ];rw[ag];by_cases Y:c= -9223372036854775808
  ·simp[cu,f46];simp[hi,V,pt,I,J,Y,E]
  ·simp[cu,f46]at ih⊢;simp[hi,V,pt,I,J,Y,U,ih]
theorem ML(O:(bG x).length<100000000)(Z:∀c∈bG x,KS c)(E:k .ret ⟨258,aD,[(2,true,.d (.bool false))],[⟨300,v,bx x⟩]⟩=R1)
 (H:k (.exit 9) ⟨258,aD,[(0,true,a),(3,true,b),(4,true,.ptr 300 v 0),(16,true,.d (.int .i64 (bG x).length)),(248,true,.d (.bool false))],[⟨300,v,bx x⟩]⟩=R2):∀(rest pre:List (List Sm)),bG x=pre++rest->
 aO ctx 46 (.loop (cu [1,0,1,0,0,1,0,0,1,1,1,1,1,1,1,1,1,1,1,0,0])) ⟨258,aD,[(0,true,a),(3,true,b),(4,true,.ptr 300 v 0),(16,true,.d (.int .i64 pre.length))],[⟨300,v,bx x⟩]⟩ k=if da rest=true then R2 else R1
 |[],pre,D=>by
  have T:pre.length=(bG x).length:=by rw[D];simp
  simp only[bx]at H;rw[T,ag];simp[cu,f46,H,da]
 |c::rest,pre,D=>by
  have I:pre.length<(bG x).length:=by rw[D];simp
  have J:(bG x)[pre.length]=c:=by simp[D]
  have ih:=ML O Z E H rest (pre++[c]) (by simp[D]);have M:=Z c (by rw[D];simp);have U:IntKind.i64.wrap ((pre.length:Int)+1)=(pre.length:Int)+1:=aA (by unfold aY;omega);simp only[bx]at E;unfold KS at M;have key:da (c::rest)=(eP c&&da rest):=by rw[da]
  rw[key];generalize eP c=N at*;rw[ag];cases N with
  |true=>
   simp[cu,f46]at ih⊢;simp[I,J,M,dR,U,ih]
  |false=>
   simp[cu,f46];simp[I,J,M,dR,E]
end
section
variable {x:Sm} {v:Nat} {k:Kt} {R1 R2:b7} {a b:AV}
theorem MM(y:(ff x).length<100000000)(Y:∀l∈ff x,l.length<100000000)(D:k .ret ⟨258,aD,[(2,true,.d (.bool false))],[⟨300,v,bx x⟩]⟩=R1)
 (H:k (.exit 5) ⟨258,aD,[(0,true,a),(3,true,b),(4,true,.ptr 300 v 0),(14,true,.d (.int .i64 (ff x).length)),(205,true,.d (.bool false))],[⟨300,v,bx x⟩]⟩=R2):∀(rest pre:List (List Int)),ff x=pre++rest->
 aO ctx 46 (.loop (cu [1,0,1,0,0,1,0,0,1,1,1,1,1,1,1,1,1,0,1,0,0])) ⟨258,aD,[(0,true,a),(3,true,b),(4,true,.ptr 300 v 0),(14,true,.d (.int .i64 pre.length))],[⟨300,v,bx x⟩]⟩ k=if rest.all sE=true then R2 else R1
 |[],pre,E=>by
  have A':pre.length=(ff x).length:=by rw[E];simp
  simp only[bx]at H;rw[A',ag];simp[cu,f46,H]
 |c::rest,pre,E=>by
  have J:pre.length<(ff x).length:=by rw[E];simp
  have M:(ff x)[pre.length]=c:=by simp[E]
  have A0:=Y c (by rw[E];simp);have ih:=MM y Y D H rest (pre++[c]) (by simp[E]);have A1:IntKind.i64.wrap ((pre.length:Int)+1)=(pre.length:Int)+1:=aA (by unfold aY;omega);have Z:=λk R1 R2 D H=>MK (a:=a) (b:=b) (v:=v) (k:=k) (R1:=R1) (R2:=R2) J M A0 D H c [] rfl;simp only[bx]at D;rw[agZ];have key:sE c=(!decide (c.length=0)&&(decide (c.length%2=0)&&c.all λn=>decide (n≠ -9223372036854775808))):=rfl;rw[key];generalize (c.all λn=>decide (n≠ -9223372036854775808))=B at*;rw[ag];have O:((c.length:Int)).tmod 2=((c.length%2:Nat):Int):=(Int.ofNat_tmod c.length 2).symm;by_cases I:c.length=0
  ·have T:c=[]:=acL I;simp[cu,f46];simp[J,M,pt,I,T,D]
  ·have T:¬c=[]:=λh=>I (by rw[h];rfl);by_cases V:c.length%2=1
   ·have U:¬c.length%2=0:=by omega
    rw[V]at O;simp[cu,f46];simp[J,M,pt,I,T,V,U,O,D]
   ·have U:c.length%2=0:=by omega
    rw[U]at O;simp[cu,f46]at ih Z⊢;simp[J,M,pt,I,T,V,U,O];rw[Z];cases B<;>simp[D,A1,ih]
end
section
variable {x:Sm} {v:Nat} {k:Kt} {R1 R2:b7} {a b:AV}
theorem aud(I:(eS x).length<100000000)(D:k .ret ⟨258,aD,[(2,true,.d (.bool false))],[⟨300,v,bx x⟩]⟩=R1):
 aO ctx 46 (cu [1,0,1,0,0,1,0,0,1,1,1,1,1,1,1,1,0]) ⟨258,aD,[(0,true,a),(3,true,b),(4,true,.ptr 300 v 0),(186,true,.d (.bool false))],[⟨300,v,bx x⟩]⟩ k=
 if (eS x).all dK=true then k .normal ⟨258,aD,[(0,true,a),(3,true,b),(4,true,.ptr 300 v 0),(13,true,.d (.int .i64 (eS x).length)),(191,true,.d (.bool false))],[⟨300,v,bx x⟩]⟩else R1:=by
 have E:=λk R1 R2 D H=>MJ (a:=a) (b:=b) (v:=v) (k:=k) (R1:=R1) (R2:=R2) I D H (eS x) [] rfl;simp only[bx]at D;generalize (eS x).all dK=B at*;simp[cu,f46]at E⊢;rw[E];cases B<;>simp[D]
theorem aue(I:(ff x).length<100000000)(V:∀l∈ff x,l.length<100000000)(D:k .ret ⟨258,aD,[(2,true,.d (.bool false))],[⟨300,v,bx x⟩]⟩=R1){d1 d2:AV}:
 aO ctx 46 (cu [1,0,1,0,0,1,0,0,1,1,1,1,1,1,1,1,1,0]) ⟨258,aD,[(0,true,a),(3,true,b),(4,true,.ptr 300 v 0),(13,true,d1),(191,true,d2)],[⟨300,v,bx x⟩]⟩ k=
 if (ff x).all sE=true then k .normal ⟨258,aD,[(0,true,a),(3,true,b),(4,true,.ptr 300 v 0),(14,true,.d (.int .i64 (ff x).length)),(205,true,.d (.bool false))],[⟨300,v,bx x⟩]⟩else R1:=by
 have E:=λk R1 R2 D H=>MM (a:=a) (b:=b) (v:=v) (k:=k) (R1:=R1) (R2:=R2) I V D H (ff x) [] rfl;simp only[bx]at D;generalize (ff x).all sE=B at*;simp[cu,f46]at E⊢;rw[E];cases B<;>simp[D]
theorem auf(I:(bG x).length<100000000)(Y:∀c∈bG x,KS c)(D:k .ret ⟨258,aD,[(2,true,.d (.bool false))],[⟨300,v,bx x⟩]⟩=R1){d1 d2:AV}:
 aO ctx 46 (cu [1,0,1,0,0,1,0,0,1,1,1,1,1,1,1,1,1,1]) ⟨258,aD,[(0,true,a),(3,true,b),(4,true,.ptr 300 v 0),(14,true,d1),(205,true,d2)],[⟨300,v,bx x⟩]⟩ k=
 if da (bG x)=true then k .normal ⟨258,aD,[(0,true,a),(3,true,b),(4,true,.ptr 300 v 0),(16,true,.d (.int .i64 (bG x).length)),(248,true,.d (.bool false))],[⟨300,v,bx x⟩]⟩else R1:=by
 have E:=λk R1 R2 D H=>ML (a:=a) (b:=b) (v:=v) (k:=k) (R1:=R1) (R2:=R2) I Y D H (bG x) [] rfl;simp only[bx]at D;generalize da (bG x)=B at*;simp[cu,f46]at E⊢;rw[E];cases B<;>simp[D]
theorem aug:aO ctx 46 (cu [1,0,1,0,0,1,0,0,1,0]) ⟨258,aD,[(0,true,a),(3,true,b),(4,true,.ptr 300 v 0)],[⟨300,v,bx x⟩]⟩ k=
 k .normal ⟨258,aD,[(0,true,a),(3,true,b),(4,true,.ptr 300 v 0),(5,true,.d (.bool (decide (bJ x=4\/bJ x=9)))),(6,true,.d (.bool (decide (bJ x=1)))),(7,true,.d (.bool (decide (bJ x=1\/bJ x=3\/bJ x=5\/bJ x=6))))],[⟨300,v,bx x⟩]⟩:=by
 have Z:=aa6 (bJ x);simp[cu,f46];simp[Z]
end
def Il(x:Sm):Bool:=decide (((cV x).length:Int)=r6 x/\((ff x).length:Int)=r9 x/\((eS x).length:Int)=nO x/\¬((bG x).length:Int)<kp x/\¬kp x+kP x<((bG x).length:Int))
theorem Uv(x:Sm):Il x=cR (bJ x) (cV x).length (ff x).length (eS x).length (bG x).length:=by
 unfold Il cR r6 r9 nO kp kP Cx;generalize bJ x=o;generalize (cV x).length=y;generalize (ff x).length=A';generalize (eS x).length=A0;generalize (bG x).length=A1;rw[Bool.eq_iff_iff];by_cases H:o=2
 ·subst H;by_cases h:(1:Int)<y
  ·simp[h];omega
  ·simp[h];omega
 ·by_cases J:o=3
  ·subst J;simp;omega
  ·by_cases M:o=4
   ·subst M;simp;omega
   ·by_cases O:o=5
    ·subst O;simp;omega
    ·by_cases T:o=6
     ·subst T;simp;omega
     ·by_cases U:o=9
      ·subst U;simp;omega
      ·simp[H,J,M,O,T,U]
theorem ai8(x:Sm):j7 x=(MG x&&(MH x&&(Ik x&&(Il x&&((eS x).all dK&&((ff x).all sE&&da (bG x))))))):=by
 rw[Uv];obtain⟨op,name,to,val,conds,A2,fields,blocks,line⟩:=x;unfold j7 MG MH Ik;simp only[Bool.and_assoc];rfl
end Go.Am
end
section
namespace Go.Am
open Go Go.Proofs
variable [Inhabited b9]
set_option maxRecDepth 20000
theorem ady(x:Ex):zb x↔((ew x).length<100000000/\(gK x).length<100000000/\(dq x).length<100000000)/\rG (dq x):=by
 obtain⟨op,nn,name,field,sub,line⟩:=x;simp only[zb,Cv,MB,rB]
mutual
def Cz:Sm->Prop
 | .mk _ _ to val conds H fields blocks _=>(zb to/\zb val/\(conds.length<100000000/\rG conds)/\(H.length<100000000/\∀l∈H,l.length<100000000)/\fields.length<100000000/\blocks.length<100000000)/\p9 blocks
def nP:List Sm->Prop
 |[]=>True
 |x::r=>Cz x/\nP r
def p9:List (List Sm)->Prop
 |[]=>True
 |b::r=>(b.length<100000000/\nP b)/\p9 r
end
def zc(x:Sm):Prop:=zb (fG x)/\zb (eJ x)/\((cV x).length<100000000/\rG (cV x))/\((ff x).length<100000000/\∀l∈ff x,l.length<100000000)/\(eS x).length<100000000/\(bG x).length<100000000
theorem adz(x:Sm):Cz x↔zc x/\p9 (bG x):=by
 obtain⟨op,name,to,val,conds,H,fields,blocks,line⟩:=x;unfold Cz zc;rfl
theorem aa7(x:Sm):cX x=[]\/cX x=[(144,true,.d (.bool false))]:=by
 unfold cX;split
 ·exact .inl rfl
 ·exact .inr rfl
theorem aoc{x:Sm}(h:zc x):IntKind.i64.wrap (kp x+kP x)=kp x+kP x:=by
 obtain⟨_,_,⟨I,_⟩,⟨AF,_⟩,_,_⟩:=h;apply aA;have AG:0<=kp x/\kp x<200000000:=by
  unfold kp Cx;split
  ·split<;>omega
  ·split
   ·omega
   ·split<;>omega
 have a2:0<=kP x/\kP x<=1:=by
  unfold kP;split<;>omega
 unfold aY;omega
section
variable {x:Sm} {v:Nat} {k:Kt} {R1:b7} {a b:AV}
theorem ai9(M:zc x)(V:∀c∈bG x,KS c)(I:k .ret ⟨258,aD,[(2,true,.d (.bool false))],[⟨300,v,bx x⟩]⟩=R1):
 aO ctx 46 (cu [1,0,1,0,0,1,0,0,1]) ⟨258,aD,[(0,true,a),(3,true,b),(4,true,.ptr 300 v 0)],[⟨300,v,bx x⟩]⟩ k=
 if j7 x=true then k .normal ⟨258,aD,[(0,true,a),(3,true,b),(4,true,.ptr 300 v 0),(16,true,.d (.int .i64 (bG x).length)),(248,true,.d (.bool false))],[⟨300,v,bx x⟩]⟩else R1:=by
 have Y:cu [1,0,1,0,0,1,0,0,1]=Code.seq (cu [1,0,1,0,0,1,0,0,1,0]) (cu [1,0,1,0,0,1,0,0,1,1]):=rfl;have Z:cu [1,0,1,0,0,1,0,0,1,1]=Code.seq (cu [1,0,1,0,0,1,0,0,1,1,0]) (cu [1,0,1,0,0,1,0,0,1,1,1]):=rfl;have y:cu [1,0,1,0,0,1,0,0,1,1,1]=Code.seq (cu [1,0,1,0,0,1,0,0,1,1,1,0]) (cu [1,0,1,0,0,1,0,0,1,1,1,1]):=rfl;have A':cu [1,0,1,0,0,1,0,0,1,1,1,1]=Code.seq (cu [1,0,1,0,0,1,0,0,1,1,1,1,0]) (cu [1,0,1,0,0,1,0,0,1,1,1,1,1]):=rfl;have A0:cu [1,0,1,0,0,1,0,0,1,1,1,1,1]=Code.seq (cu [1,0,1,0,0,1,0,0,1,1,1,1,1,0]) (cu [1,0,1,0,0,1,0,0,1,1,1,1,1,1]):=rfl;have A1:cu [1,0,1,0,0,1,0,0,1,1,1,1,1,1]=Code.seq (cu [1,0,1,0,0,1,0,0,1,1,1,1,1,1,0]) (cu [1,0,1,0,0,1,0,0,1,1,1,1,1,1,1]):=rfl;have A2:cu [1,0,1,0,0,1,0,0,1,1,1,1,1,1,1]=Code.seq (cu [1,0,1,0,0,1,0,0,1,1,1,1,1,1,1,0]) (cu [1,0,1,0,0,1,0,0,1,1,1,1,1,1,1,1]):=rfl;have A3:cu [1,0,1,0,0,1,0,0,1,1,1,1,1,1,1,1]=Code.seq (cu [1,0,1,0,0,1,0,0,1,1,1,1,1,1,1,1,0]) (cu [1,0,1,0,0,1,0,0,1,1,1,1,1,1,1,1,1]):=rfl;have A4:cu [1,0,1,0,0,1,0,0,1,1,1,1,1,1,1,1,1]=Code.seq (cu [1,0,1,0,0,1,0,0,1,1,1,1,1,1,1,1,1,0]) (cu [1,0,1,0,0,1,0,0,1,1,1,1,1,1,1,1,1,1]):=rfl;have D:∀c,Cm ctx 46 c k .ret ⟨258,aD,[(2,true,.d (.bool false))],[⟨300,v,bx x⟩]⟩=R1:=λ_=>I;have hw:=aoc M;obtain⟨O,T,⟨A5,A6⟩,⟨A7,A8⟩,A9,AA⟩:=M;have AB:KF [fG x]:=E8 (l:=[fG x]) (by simp) ⟨O,trivial⟩;have AC:KF [eJ x]:=E8 (l:=[eJ x]) (by simp) ⟨T,trivial⟩;have AD:KF (cV x):=E8 A5 A6;rw[ai8];rw[Y,ik,aug,kN,Z,ik,at6 (D _)];cases MG x
 ·rw[ajo,ach aeb,ach aeb]
 rw[acs rfl,ahl,kN,y,ik,at7 (D _) ((ady _).1 O).1 AB];cases MH x
 ·rw[ajo,ach aeb,ach aeb]
 rw[acs rfl,ahl,kN,A',ik,aua (D _) rfl ((ady _).1 T).1 AC AD];cases Ik x
 ·rw[ajo,ach aeb,ach aeb]
 rw[acs rfl,ahl,kN,A0,ik,aub (X:=[]),kN,A1,ik,auc,kN,A2,ik];have AE:∀E:Kt,E .ret ⟨258,aD,[(2,true,.d (.bool false))],[⟨300,v,bx x⟩]⟩=R1->aO ctx 46 (cu [1,0,1,0,0,1,0,0,1,1,1,1,1,1,1,0]) ⟨258,aD,[(0,true,a),(3,true,b),(4,true,.ptr 300 v 0),(8,true,.d (.int .i64 (r6 x))),(9,true,.d (.int .i64 (r9 x))),(10,true,.d (.int .i64 (nO x))),(11,true,.d (.int .i64 (kp x))),(12,true,.d (.int .i64 (kP x)))]++cX x,[⟨300,v,bx x⟩]⟩ E=
  if Il x=true then E .normal ⟨258,aD,[(0,true,a),(3,true,b),(4,true,.ptr 300 v 0),(186,true,.d (.bool false))],[⟨300,v,bx x⟩]⟩else R1:=by
  intro E U;unfold Il;rcases aa7 x with J|J
  ·rw[J,ad9,aoa U hw];simp only[acn]
  ·rw[J];simp only[agx,ad8];rw[aob U hw];simp only[acn]
 rw[AE _ (D _)];cases Il x
 ·rw[ajo,ach aeb,ach aeb]
 rw[acs rfl,ahl,kN,A3,ik,aud A9 (D _)];cases (eS x).all dK
 ·rw[ajo,ach aeb,ach aeb]
 rw[acs rfl,ahl,kN,A4,ik,aue A7 A8 (D _)];cases (ff x).all sE
 ·rw[ajo,ach aeb,ach aeb]
 rw[acs rfl,ahl,kN,auf AA V I]
end
end Go.Am
end
section
namespace Go.Am
open Go Go.Proofs Go.Proofs.Tryz
variable [Inhabited b9]
set_option maxRecDepth 20000
theorem MN(l:List Sm)(J:l.length<100000000)(T:∀x∈l,zc x)(U:∀x∈l,∀c∈bG x,KS c)(k:Kt)(R1 R2:b7)
 (E:∀v X,k .ret ⟨258,aD,[(2,true,.d (.bool false))],[⟨300,v,X⟩]⟩=R1)
 (H:∀(Y:Env) v X,k (.exit 0) ⟨258,aD,Y,[⟨300,v,X⟩]⟩=R2):∀(rest pre:List Sm)(v:Nat)(X:aJ),l=pre++rest->
 aO ctx 46 (.loop (cu [1,0,1,0,0])) ⟨258,aD,[(0,true,.d (.list (l.map dc))),(3,true,.d (.int .i64 pre.length))],[⟨300,v,X⟩]⟩ k=if eP rest=true then R2 else R1
 |[],pre,v,X,I=>by
  have Z:pre.length=l.length:=by rw[I];simp
  rw[Z,ag];simp[cu,f46,H,eP]
 |x::rest,pre,v,X,I=>by
  have A':pre.length<l.length:=by rw[I];simp
  have A0:l[pre.length]=x:=by simp[I]
  have hm:x∈l:=by rw[I];simp
  have V:=λ(v:Nat) (a b:AV) (k:Kt)=>ai9 (v:=v) (a:=a) (b:=b) (k:=k) (T x hm) (U x hm) rfl;have ih:∀v X,aO ctx 46 (.loop (cu [1,0,1,0,0])) ⟨258,aD,[(0,true,.d (.list (l.map dc))),(3,true,.d (.int .i64 (pre.length+1)))],[⟨300,v,X⟩]⟩ k=if eP rest=true then R2 else R1:=λv X=>by
   have:=MN l J T U k R1 R2 E H rest (pre++[x]) v X (by simp[I]);simpa using this
  have A1:IntKind.i64.wrap ((pre.length:Int)+1)=(pre.length:Int)+1:=aA (by unfold aY;omega);have key:eP (x::rest)=(j7 x&&eP rest):=by rw[eP]
  rw[key];generalize j7 x=N at*;generalize eP rest=M at*;rw[ag];simp[cu,f46]at V ih⊢;simp[A',A0,fR];simp[V];cases N<;>simp[E,A1,ih]
theorem XR{l:List Sm}(J:l.length<100000000)(T:∀x∈l,zc x)(U:∀x∈l,∀c∈bG x,KS c):KS l:=by
 have h:=λk R1 R2 E H v X=>MN l J T U k R1 R2 E H l [] v X rfl;unfold KS;rw[anD (by simp)];simp[cu,f46]at h⊢;rw[h _ (some (.ret (.d (.bool false)),[])) (some (.ret (.d (.bool true)),[]))]
 ·cases eP l<;>simp
 ·intro v X;simp
 ·intro Y v X;simp
mutual
theorem ajb:∀x:Sm,Cz x->zc x/\∀c∈bG x,KS c
 | .mk op name to val conds A2 fields blocks line,h=>by
  have h:=(adz _).1 h;exact⟨h.1,QW blocks h.2⟩
theorem Dx:∀l:List Sm,nP l->∀x∈l,zc x/\∀c∈bG x,KS c
 |[],_,x,D=>by simp at D
 |y::r,h,x,D=>by
  simp only[nP]at h;have E:=ajb y h.1;have H:=Dx r h.2;rcases aco.1 D with e|D
  ·rw[e];exact E
  ·exact H x D
theorem QW:∀l:List (List Sm),p9 l->∀c∈l,KS c
 |[],_,c,O=>by simp at O
 |b::r,h,c,O=>by
  simp only[p9]at h;have E:=Dx b h.1.2;have H:=QW r h.2;rcases aco.1 O with e|O
  ·rw[e];exact XR h.1.1 (λx D=>(E x D).1) (λx D=>(E x D).2)
  ·exact H c O
end
theorem aa8{l:List Sm}(J:l.length<100000000)(h:nP l):KS l:=
 XR J (λx D=>(Dx l h x D).1) (λx D=>(Dx l h x D).2)
end Go.Am
end
section
namespace Go.Am
open Go Go.Proofs
variable [Inhabited b9]
set_option maxRecDepth 20000
theorem auh:ai ctx 73 [.d (.int .i64 10)] []=some (.ret (.d (.list ((bI 10).map dH))),[]):=bH 120 (by kernel_rfl)
theorem aui:ai ctx 73 [.d (.int .i64 11)] []=some (.ret (.d (.list ((bI 11).map dH))),[]):=bH 120 (by kernel_rfl)
theorem auj:ai ctx 73 [.d (.int .i64 12)] []=some (.ret (.d (.list ((bI 12).map dH))),[]):=bH 120 (by kernel_rfl)
theorem auk:ai ctx 73 [.d (.int .i64 13)] []=some (.ret (.d (.list ((bI 13).map dH))),[]):=bH 120 (by kernel_rfl)
theorem aul:ai ctx 73 [.d (.int .i64 14)] []=some (.ret (.d (.list ((bI 14).map dH))),[]):=bH 120 (by kernel_rfl)
theorem aum:ai ctx 73 [.d (.int .i64 15)] []=some (.ret (.d (.list ((bI 15).map dH))),[]):=bH 120 (by kernel_rfl)
theorem aun:ai ctx 73 [.d (.int .i64 16)] []=some (.ret (.d (.list ((bI 16).map dH))),[]):=bH 120 (by kernel_rfl)
theorem auo:ai ctx 73 [.d (.int .i64 17)] []=some (.ret (.d (.list ((bI 17).map dH))),[]):=bH 120 (by kernel_rfl)
theorem aup:ai ctx 73 [.d (.int .i64 18)] []=some (.ret (.d (.list ((bI 18).map dH))),[]):=bH 120 (by kernel_rfl)
theorem auq:ai ctx 73 [.d (.int .i64 19)] []=some (.ret (.d (.list ((bI 19).map dH))),[]):=bH 120 (by kernel_rfl)
theorem aur:ai ctx 73 [.d (.int .i64 20)] []=some (.ret (.d (.list ((bI 20).map dH))),[]):=bH 120 (by kernel_rfl)
theorem aus:ai ctx 73 [.d (.int .i64 21)] []=some (.ret (.d (.list ((bI 21).map dH))),[]):=bH 120 (by kernel_rfl)
theorem aut:ai ctx 73 [.d (.int .i64 22)] []=some (.ret (.d (.list ((bI 22).map dH))),[]):=bH 120 (by kernel_rfl)
theorem auu:ai ctx 73 [.d (.int .i64 23)] []=some (.ret (.d (.list ((bI 23).map dH))),[]):=bH 120 (by kernel_rfl)
theorem auv:ai ctx 73 [.d (.int .i64 24)] []=some (.ret (.d (.list ((bI 24).map dH))),[]):=bH 120 (by kernel_rfl)
theorem auw:ai ctx 73 [.d (.int .i64 25)] []=some (.ret (.d (.list ((bI 25).map dH))),[]):=bH 120 (by kernel_rfl)
theorem auy:ai ctx 73 [.d (.int .i64 26)] []=some (.ret (.d (.list ((bI 26).map dH))),[]):=bH 120 (by kernel_rfl)
theorem auz:ai ctx 73 [.d (.int .i64 27)] []=some (.ret (.d (.list ((bI 27).map dH))),[]):=bH 120 (by kernel_rfl)
theorem auA:ai ctx 73 [.d (.int .i64 28)] []=some (.ret (.d (.list ((bI 28).map dH))),[]):=bH 120 (by kernel_rfl)
theorem auB:ai ctx 73 [.d (.int .i64 29)] []=some (.ret (.d (.list ((bI 29).map dH))),[]):=bH 120 (by kernel_rfl)
theorem auC:ai ctx 73 [.d (.int .i64 30)] []=some (.ret (.d (.list ((bI 30).map dH))),[]):=bH 120 (by kernel_rfl)
theorem auD:ai ctx 73 [.d (.int .i64 31)] []=some (.ret (.d (.list ((bI 31).map dH))),[]):=bH 120 (by kernel_rfl)
end Go.Am
end
