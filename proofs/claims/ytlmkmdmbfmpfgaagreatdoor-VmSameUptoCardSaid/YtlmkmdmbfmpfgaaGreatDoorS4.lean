/-
  Texts of one proof, one behind the other.
-/
import Derived.Test.YtlmkmdmbfmpfgaaGreatDoorS3
import Derived.Lib.Bytealg
import Derived.Lib.Index
import Derived.Lib.Strings
import Derived.ProofKit
import Derived.ChangeArms
import Derived.ChangeCalls
set_option linter.all false
section
namespace Go.Am
open Go
set_option maxRecDepth 20000
set_option maxHeartbeats 4000000
def abt(c:UInt8):Bool:=(decide (65<=c.toNat)&&decide (c.toNat<=90))||(decide (97<=c.toNat)&&decide (c.toNat<=122))
def abu(c:UInt8):Bool:=decide (48<=c.toNat)&&decide (c.toNat<=57)
def zY:List UInt8->Nat->Bool
 |[],_=>true
 |c::r,i=>(abt c||(!decide (i=0)&&(decide (c=95)||abu c)))&&zY r (i+1)
def dV(s:Tx):Bool:=decide (1<=s.length)&&(decide (s.length<=16)&&(!NK s&&zY s 0))
structure Pn where
 name:Tx
 ty:Int
 Mv:Bool
 deriving DecidableEq
def gz(p:Pn):D:=.agg [.str p.name,.int .i64 p.ty,.bool p.Mv]
def nw(ins outs:List (Tx×Bool))(n:Nat):List Pn:=ins.map (λx=>⟨x.1,if x.2 then 1 else 2,true⟩)++outs.map (λx=>⟨x.1,if x.2 then 1 else 2,false⟩)++List.replicate n ⟨[],1,false⟩
def F2:List (Tx×Bool):=[([68,111,110,101],false),([66,117,115,121],false),([65,99,116,105,118,101],false),([67,111,109,109,97,110,100,65,98,111,114,116,101,100],false),([69,114,114,111,114],false)]
def SZ:List (Int×List Pn):=[
 (10,nw [([73,78],false),([80,84],true)] [([81],false),([69,84],true)] 0),
 (11,nw [([73,78],false),([80,84],true)] [([81],false),([69,84],true)] 0),
 (12,nw [([73,78],false),([80,84],true)] [([81],false),([69,84],true)] 2),
 (13,nw [([67,85],false),([82],false),([80,86],true)] [([81],false),([67,86],true)] 1),
 (14,nw [([67,68],false),([76,68],false),([80,86],true)] [([81],false),([67,86],true)] 1),
 (15,nw [([67,76,75],false)] [([81],false)] 1),
 (16,nw [([67,76,75],false)] [([81],false)] 1),
 (17,nw [([83,49],false),([82],false)] [([81,49],false)] 0),
 (18,nw [([83],false),([82,49],false)] [([81,49],false)] 0),
 (20,nw [([65,120,105,115],true),([69,110,97,98,108,101],false)] [([83,116,97,116,117,115],false),([69,114,114,111,114],false)] 0),
 (21,nw [([65,120,105,115],true),([69,120,101,99,117,116,101],false)] F2 2),
 (22,nw [([65,120,105,115],true),([69,120,101,99,117,116,101],false)] F2 2),
 (23,nw [([65,120,105,115],true),([69,120,101,99,117,116,101],false)] F2 2),
 (24,nw [([65,120,105,115],true),([69,120,101,99,117,116,101],false),([80,111,115,105,116,105,111,110],true),([86,101,108,111,99,105,116,121],true),([66,117,102,102,101,114,77,111,100,101],true)] F2 2),
 (25,nw [([65,120,105,115],true),([69,120,101,99,117,116,101],false),([68,105,115,116,97,110,99,101],true),([86,101,108,111,99,105,116,121],true),([66,117,102,102,101,114,77,111,100,101],true)] F2 2),
 (26,nw [([65,120,105,115],true),([69,120,101,99,117,116,101],false),([68,105,115,116,97,110,99,101],true),([86,101,108,111,99,105,116,121],true),([66,117,102,102,101,114,77,111,100,101],true)] F2 2),
 (27,nw [([65,120,105,115],true),([69,120,101,99,117,116,101],false),([86,101,108,111,99,105,116,121],true)] [([73,110,86,101,108,111,99,105,116,121],false),([66,117,115,121],false),([65,99,116,105,118,101],false),([67,111,109,109,97,110,100,65,98,111,114,116,101,100],false),([69,114,114,111,114],false)] 2),
 (28,nw [([65,120,105,115],true),([69,120,101,99,117,116,101],false),([77,97,115,116,101,114],true),([78,117,109,101,114,97,116,111,114],true),([68,101,110,111,109,105,110,97,116,111,114],true)] [([73,110,71,101,97,114],false),([66,117,115,121],false),([65,99,116,105,118,101],false),([67,111,109,109,97,110,100,65,98,111,114,116,101,100],false),([69,114,114,111,114],false)] 2),
 (29,nw [([65,120,105,115],true),([69,120,101,99,117,116,101],false)] [([68,111,110,101],false),([69,114,114,111,114],false)] 1),
 (30,nw [([65,120,105,115],true),([69,120,101,99,117,116,101],false),([80,111,115,105,116,105,111,110],true)] [([68,111,110,101],false),([69,114,114,111,114],false)] 1),
 (31,nw [([65,120,105,115],true),([69,110,97,98,108,101],false),([80,101,114,99,101,110,116],true)] [([69,110,97,98,108,101,100],false)] 0)]
def zZ:List (Int×List Pn)->Int->List Pn
 |[],_=>[]
 |(a,l)::r,k=>if a=k then l else zZ r k
def dQ(k:Int):List Pn:=zZ SZ k
def C0:List Pn->Tx->Option Pn
 |[],_=>none
 |p::r,s=>if p.name=s/\s≠[]then some p else C0 r s
def mn(k:Int)(s:Tx):Option Pn:=C0 (dQ k) s
def bj:List Vr->Tx->Option Vr
 |[],_=>none
 |v::r,s=>if v.name=s then some v else bj r s
def cB(v:Vr):Int:=if v.arr=true then v.hi-v.lo+1 else if 2<v.ty then (dQ v.ty).length else 1
structure Te where
 t:Int
 e:Int
 line:Int
 deriving DecidableEq
def gA(t:Int):Te:=⟨t,0,0⟩
def du(e line:Int):Te:=⟨0,e,line⟩
def jr(op t:Int):Int:=if op=6\/(8<=op/\op<=12)\/(15<=op/\op<=18)then 1 else if op=13\/op=14 then t else 2
def jS(op:Int):Int:=if op=6\/(8<=op/\op<=12)then 1 else 2
def df(op line:Int)(a b:Te):Te:=
 if a.e≠0 then ⟨0,a.e,a.line⟩else if b.e≠0 then ⟨0,b.e,b.line⟩else
 if a.t≠jr op a.t\/b.t≠jr op a.t then du 10 line else gA (jS op)
def ky{op line:Int}{a b:Te}(h:(df op line a b).e=0):a.e=0/\b.e=0/\a.t=jr op a.t/\b.t=jr op a.t/\df op line a b=gA (jS op):=by
 unfold df at h⊢;by_cases H:a.e≠0
 .rw[ac1 H]at h;exact absurd h H
 .rw[aaf H]at h⊢;by_cases I:b.e≠0
  .rw[ac1 I]at h;exact absurd h I
  .rw[aaf I]at h⊢;by_cases J:a.t≠jr op a.t\/b.t≠jr op a.t
   .rw[ac1 J]at h;simp[du]at h
   .rw[aaf J];simp only[ne_eq,alp,Decidable.not_not]at H I J;exact⟨H,I,J.1,J.2,rfl⟩
mutual
def aE(vs:List Vr):Ex->Te
 | .mk op _ name field sub line=>
  if op=1\/op=2 then gA op
  else if op=3\/op=4\/op=5 then
   match bj vs name with
   |none=>du 9 line
   |some v=>
    if op=5 then (if v.ty<=2 then du 10 line else match mn v.ty field with
     |none=>du 9 line
     |some p=>gA p.ty)
    else if v.arr≠decide (op=4)\/2<v.ty then du 10 line
    else if op=4 then BN vs v.ty sub
    else gA v.ty
  else xp vs op line sub
def BN(vs:List Vr)(t:Int):List Ex->Te
 |[]=>gA t
 |x::_=>if (aE vs x).e≠0 then du (aE vs x).e (aE vs x).line else if (aE vs x).t≠1 then du 10 (lQ x)else gA t
def xp(vs:List Vr)(op line:Int):List Ex->Te
 |[]=>gA 0
 |[x]=>df op line (aE vs x) (aE vs x)
 |x::y::_=>df op line (aE vs x) (aE vs y)
end
def ew(vs:List Vr)(x:Ex)(t:Int):Int×Int:=if (aE vs x).e≠0 then ((aE vs x).e,(aE vs x).line)else if (aE vs x).t≠t then (10,lQ x)else (0,0)
def jT(b:Int):Nat:=(dQ b).length
def jx:List Int:=[10,11,12,13,14,15,16,17,18,20,21,22,23,24,25,26,27,28,29,30,31]
def tL{b:Int}(D:b∉jx):dQ b=[]:=by
 simp only[jx,ac4,adL,apQ,alp]at D;obtain⟨H,I,J,M,O,T,U,V,Y,Z,y,A',A0,A1,A2,A3,A4,A5,A6,A7,A8⟩:=D;unfold dQ SZ;simp only[zZ,aaf (ahN H),aaf (ahN I),aaf (ahN J),aaf (ahN M),aaf (ahN O),aaf (ahN T),aaf (ahN U),aaf (ahN V),aaf (ahN Y),aaf (ahN Z),aaf (ahN y),aaf (ahN A'),aaf (ahN A0),aaf (ahN A1),aaf (ahN A2),aaf (ahN A3),aaf (ahN A4),aaf (ahN A5),aaf (ahN A6),aaf (ahN A7),aaf (ahN A8)]
def wm(b:Int):(dQ b).length<=20:=by
 by_cases D:b∈jx
 .simp only[jx,ac4,adL,apQ]at D;rcases D with rfl|rfl|rfl|rfl|rfl|rfl|rfl|rfl|rfl|rfl|rfl|rfl|rfl|rfl|rfl|rfl|rfl|rfl|rfl|rfl|rfl<;>decide
 .rw[tL D];decide
def iT(x:ar)(n:Int):Bool:=decide (x.n<=n)&&decide (n<=x.m)
def fo(C:List Int)(k:Int):Int:=C[k.toNat]?.getD 0
def cellAt{C:List Int}{k:Int}(h:k.toNat<C.length):C[k.toNat]=fo C k:=by unfold fo;rw[ado h];rfl
def tM(C:List Int)(x:ar):Bool:=decide (0<=fo C (x.b+1)/\fo C x.a<=fo C x.b)||decide (fo C (x.b+1)<0/\fo C x.b<=fo C x.a)
def E4(k a b q e:Int):(xO k a b q e).length=4:=by unfold xO;(repeat' split)<;>rfl
def z6(k a b q e p r:Int):(sf k a b q e p r).length=6:=by unfold sf tpS cuS cdS;dsimp only;(repeat' split)<;>rfl
def YE(k a b q:Int):(xP k a b q).length=3:=by unfold xP;(repeat' split)<;>rfl
def wo(k:Int)(c:List Int):(ie k c).length=c.length:=by
 unfold ie;split
 .exact YE ..
 .exact E4 ..
 .exact z6 ..
 .rfl
structure Ms where
 cells:List Int
 eL:List Int
 at_:Int
 fuel:Int
 fault:Int
def Ms.pop(s:Ms):Ms:={s with eL:=s.eL.dropLast}
def Ms.push(s:Ms)(n:Int):Ms:={s with eL:=s.eL++[n]}
def Ms.top(s:Ms):Int:=s.eL.getLast?.getD 0
def oP(C:List Int)(k n:Int):List Int:=C.set k.toNat n
def dI(x:ar)(s:Ms):Option Ms:=
 if x.op=1 then some (s.push x.n)
 else if x.op=2 then some (s.push (fo s.cells x.a))
 else if x.op=3 then some (s.push (cg (decide (fo s.cells x.a≠0))))
 else if x.op=4\/x.op=5 then
  (if iT x s.top=true then some (s.pop.push (if x.op=4 then fo s.cells (x.a+(s.top-x.n))else cg (decide (fo s.cells (x.a+(s.top-x.n))≠0))))else some {s.pop with fault:=3})
 else if x.op=6 then some {s.pop with cells:=oP s.cells x.a s.top}
 else if x.op=7 then
  (if iT x s.pop.top=true then some {s.pop.pop with cells:=oP s.cells (x.a+(s.pop.top-x.n)) s.top} else some {s.pop.pop with fault:=3})
 else none
def Mw(x:ar)(s:Ms):Ms:=
 if x.b=6\/x.b=7 then
  (if (jl x.b s.top (decide (x.a=1))).2.2=0 then s.pop.push (jl x.b s.top (decide (x.a=1))).1 else {s.pop with fault:=(jl x.b s.top (decide (x.a=1))).2.2})
 else
  (if (gR x.b s.pop.top s.top (decide (x.a=1))).2.2=0 then s.pop.pop.push (gR x.b s.pop.top s.top (decide (x.a=1))).1 else {s.pop.pop with fault:=(gR x.b s.pop.top s.top (decide (x.a=1))).2.2})
def pb(x:ar)(C:List Int):List Int:=C.take x.a.toNat++ie x.b ((C.drop x.a.toNat).take (jT x.b))++C.drop (x.a.toNat+jT x.b)
def fZ(x:ar)(s:Ms):Ms:=
 if x.op=8 then Mw x s
 else if x.op=9 then {s with at_:=x.a}
 else if x.op=10 then (if s.top=0 then {s.pop with at_:=x.a} else s.pop)
 else if x.op=11 then (if s.fuel=0 then {s with fault:=4} else {s with fuel:=s.fuel-1})
 else if x.op=12 then {s with cells:=pb x s.cells}
 else if x.op=13 then s.push (cg (tM s.cells x))
 else if x.op=14 then s.push (cg (decide (x.n<=fo s.cells x.a/\fo s.cells x.a<=x.m)))
 else s
def bB(x:ar)(s:Ms):Ms:=
 match dI x {s with at_:=s.at_+1} with
 |some t=>t
 |none=>fZ x {s with at_:=s.at_+1}
inductive pQ(l:List ar):Ms->Ms->Prop
 |fault (s:Ms) (h:s.fault≠0):pQ l s s
 |fin (s:Ms) (x:ar) (A9:s.fault=0) (AA:l[s.at_.toNat]?=some x) (h:x.op=15):pQ l s s
 |step (s:Ms) (x:ar) (t:Ms) (A9:s.fault=0) (AA:l[s.at_.toNat]?=some x) (h:x.op≠15) (AB:pQ l (bB x s) t):pQ l s t
def abv:List D->Option D
 |[.str s,.str t]=>if s.length<4294967281 then some (.int .i64 (Go.Lib.index s t))else none
 |_=>none
def ibO:List D->Option D
 |[.str s,.int .u8 c]=>some (.int .i64 (Go.Lib.indexByte s c.toNat.toUInt8))
 |_=>none
def hpO:List D->Option D
 |[.str s,.str p]=>some (.bool (Go.Lib.hasPrefix s p))
 |_=>none
attribute [simp] abv.eq_1 ibO.eq_1 hpO.eq_1
section
variable {X:Ctx} {U:bP} {md:Bool} {all:List Oper} {S:St}
@[simp] theorem amX{d:Option Tmp}{op:Op}{ty:TypeId}{pos:String}{O:Array Edge}:fF X U md all S ⟨d,op,ty,pos,O,none⟩=gw X U S ⟨d,op,ty,pos,O,none⟩ (ee X.P S ⟨d,op,ty,pos,O,none⟩):=rfl
@[simp] theorem ara{J:List Nat}{i:Nat}{M:List bC}:wU X md all J i [] S M=some (EZ M []):=by rw[FW,agV];rfl
theorem YF{J:List Nat}{i:Nat}{o:Oper}{r:List Oper}{M:List bC}:wU X md all J i (o::r) S M=if J.contains i=true then (match fF X (λ_ _ _=>none) md all S o with
 |some (S1,p)=>wU X md all J (i+1) r S1 (p::M)
 |none=>none)else wU X md all J (i+1) r (S.put o.dst false .bH) (⟨[],[],false,.bH⟩::M):=by
 simp only[wU];cases J.contains i<;>rfl
end
attribute [simp] YF gw.eq_1 gw.eq_2 gw.eq_3 Vg.eq_1 Vf.eq_1 Vf.eq_2 jh.eq_1 jh.eq_2 ja.eq_1 ja.eq_2 m6.eq_1 m6.eq_2 St.kill.eq_1 Kz.eq_1 Kz.eq_2 Es.eq_1 Es.eq_2
attribute [simp] ah8 aeU abq Yu
section
variable {V T α:Type} {X:Ctx} {md:Bool} {Y:Nat×List (List Nat)} {S:St} {d:Option Nat} {all q:List Oper} {M:List bC} {k:Kt} {r:PR V T α} {f:α->T->Option im} {g:V->T->Option im}
end
attribute [simp] Yn VO Yo VP VQ Sd VR Yp Yq VS
attribute [simp] Jw.eq_1 KU.eq_1 PD.eq_1 NI.eq_1 NI.eq_2 Jx.eq_1 Jx.eq_2 Vi.eq_1 Vi.eq_2 ED.eq_1 Hy.eq_1 Hy.eq_2 Hy.eq_3 xI.eq_1 Yt NJ.eq_1 NJ.eq_2
section
variable {X:Ctx} {f:FuncId} {S:St} {H:List DF} {I:E3} {b:Code}
@[simp] theorem asZ:Jw X f b I .ret S H=I .ret S H:=rfl
@[simp] theorem as0{t:TypeId}{x:D}:Jw X f b I (.panic t x) S H=I (.panic t x) S H:=rfl
@[simp] theorem as1{i:Nat}:Jw X f b I (.exit i) S H=I (.exit i) S H:=rfl
@[simp] theorem ap8{id:Nat}{t:TypeId}{x:D}:KU X f id I (.panic t x) S H=I (.panic t x) S H:=rfl
@[simp] theorem arb{md:Bool}{all r:List Oper}{t:TypeId}{x:D}:PD X md all r H I (.panic t x) S=I (.panic t x) S H:=rfl
end
@[simp] def agI:oL none=[]:=rfl
@[simp] def agJ(k v:Nat):oL (some ⟨k,v,.dead⟩)=[]:=rfl
@[simp] def aii(k v:Nat)(cs:List AV):oL (some ⟨k,v,.box cs⟩)=kr cs:=rfl
@[simp] def aij(k v sz:Nat)(aq:List D):oL (some ⟨k,v,.vec sz aq⟩)=[]:=rfl
@[simp] def aik(k v:Nat)(aq:List (List D)):oL (some ⟨k,v,.vv aq none⟩)=[]:=rfl
@[simp] def amY(k v:Nat)(aq:List (List D))(x:AV):oL (some ⟨k,v,.vv aq (some x)⟩)=jK x:=rfl
@[simp] def as2(m ρ bor nv aq y):AD m ρ bor nv (.vv aq y)=.vv aq (y.map (vw m ρ bor nv)):=rfl
@[simp] def ap9(aq y):oZ (.vv aq y)=(aq.all mM&&(match y with|none=>true|some x=>eZ x)):=rfl
@[simp] def at4(ρ bs aq y):II ρ bs (.vv aq y)=.vv aq (y.map (up ρ bs)):=rfl
@[simp] def as3(I aq y):uH I (.vv aq y)=.vv aq (y.map I):=rfl
@[simp] def agK(P t H len ps):pY P t H len ps none=none:=by
 unfold pY;split<;>simp_all
@[simp] def ail(P t H len o):pY P t H len [] o=none:=by
 unfold pY;split<;>simp_all
@[simp] def aim(P t H len k v c):pY P t H len [(0,.lit (.slice none 0 0))] (some ⟨k,v,c⟩)=(match tk P t with
 | .slice e=>match gT P e,oW P e with
  |some sz,some _=>some (.dU (sz=1/\len=1) (.vec H (v+1) 0 1) ⟨H,v+1,.box [.lit (.slice none 0 0)]⟩)
  |_,_=>none
 |_=>none):=rfl
attribute [simp] vo.eq_1
attribute [simp] Iv.eq_1 Ch.eq_1
attribute [simp] Gh.go St.gg.eq_1 St.cls.eq_1 St.shut.eq_1 St.wb.eq_1
@[simp] def arc(t:pa):D:=.agg [.int .i64 t.kind,.str t.text,.int .i64 t.n,.int .i64 t.line,.int .i64 t.col]
def fe(op:Int):Nat:=if op=4\/op=6\/op=7 then 1 else if 7<op then 2 else 0
mutual
def bm:Ex->Bool
 | .mk op n name field sub _=>
  !decide ((op=1/\n<0)\/(op=2/\(n<0\/1<n))\/(2<op/\n≠0)\/op<1\/21<op)&&
  (decide (sub.length=fe op)&&((if op=3\/op=4\/op=5 then dV name else decide (name=[]))&&((if op=5 then dV field else decide (field=[]))&&bI sub)))
def bI:List Ex->Bool
 |[]=>true
 |x::r=>bm x&&bI r
end
def fT:∀l:List Ex,bI l=true↔∀x∈l,bm x=true
 |[]=>by simp[bI]
 |x::r=>by simp[bI,fT r]
def ff(x:Ex):Bool:=decide (bQ x=0)&&(decide (iS x=0)&&decide ((eh x).length+(ic x).length+(di x).length=0))
def uV(l:List Int):Bool:=!decide (l.length=0)&&(decide (l.length%2=0)&&l.all λn=>decide (n≠ -9223372036854775808))
def dj(op:Int)(conds H fields blocks:Nat):Bool:=
 if op=2 then decide (conds=max 1 conds)&&(decide (H=0)&&(decide (fields=0)&&(decide (max 1 conds<=blocks)&&decide (blocks<=max 1 conds+1))))
 else if op=3 then decide (conds=0)&&(decide (fields=0)&&(decide (H<=blocks)&&decide (blocks<=H+1)))
 else if op=4 then decide (conds=3)&&(decide (H=0)&&(decide (fields=0)&&decide (blocks=1)))
 else if op=5\/op=6 then decide (conds=0)&&(decide (H=0)&&(decide (fields=0)&&decide (blocks=1)))
 else if op=9 then decide (conds=fields)&&(decide (H=0)&&decide (blocks=0))
 else decide (conds=0)&&(decide (H=0)&&(decide (fields=0)&&decide (blocks=0)))
mutual
def j9:Sm->Bool
 | .mk op name to val conds H fields blocks _=>
  decide (1<=op/\op<=9)&&((if op=4\/op=9 then dV name else decide (name=[]))&&
  ((if op=1 then decide (bQ to=3\/bQ to=4)&&bm to else ff to)&&
  ((if op=1\/op=3\/op=5\/op=6 then !ff val&&bm val else ff val)&&
  (bI conds&&(dj op conds.length H.length fields.length blocks.length&&
  (fields.all dV&&(H.all uV&&cu blocks)))))))
def eA:List Sm->Bool
 |[]=>true
 |x::r=>j9 x&&eA r
def cu:List (List Sm)->Bool
 |[]=>true
 |b::r=>eA b&&cu r
end
def tN(k:Int):Bool:=(dQ k).length≠0
def dr(v:Vr):Bool:=
 dV v.name&&(decide (0<=v.sec/\v.sec<=2)&&(decide (v.ty=1\/v.ty=2)||tN v.ty)&&
 ((if v.arr=true then decide (v.ty<=2/\0<=v.lo/\v.lo<=v.hi/\v.hi<=255)else decide (v.lo=0/\v.hi=0))&&
 !decide (((v.arr=true\/2<v.ty)/\v.init≠0)\/(v.ty=2/\(v.init<0\/1<v.init))\/v.init= -9223372036854775808)))
def lH(p:Pg):Bool:=dV p.name&&(decide (p.vars.length<=64)&&(p.vars.all dr&&eA p.body))
abbrev EL:=Int×Int
def gS(a b:EL):EL:=if a.1≠0 then a else b
def Mx(a:Te):EL:=(a.e,a.line)
def JA(vs:List Vr)(to val:Ex)(line:Int):EL:=
 match bj vs (eh to)with
 |none=>(9,lQ to)
 |some v=>if v.sec=1 then (1,lQ to)else gS (Mx (aE vs to)) (gS (Mx (aE vs val)) (if (aE vs val).t≠(aE vs to).t then (10,line)else (0,0)))
def n7(vs:List Vr)(t:Int):List Ex->EL
 |[]=>(0,0)
 |x::r=>gS (ew vs x t) (n7 vs t r)
def iU(vs:List Vr)(k line:Int):List Tx->List Ex->List Tx->EL
 |f::fs,x::xs,p=>match mn k f with
  |none=>(9,line)
  |some q=>if q.Mv=false then (9,line)else if f∈p then (11,line)else gS (ew vs x q.ty) (iU vs k line fs xs (p++[f]))
 |_,_,_=>(0,0)
mutual
def lA(vs:List Vr)(D:Bool):Sm->EL
 | .mk op name to val conds _ fields blocks line=>
  if op=1 then JA vs to val line
  else if op=2 then fj vs D conds blocks
  else if op=3 then gS (ew vs val 1) (fj vs D [] blocks)
  else if op=4 then (match bj vs name with
   |none=>(9,line)
   |some v=>if v.sec=1 then (1,line)else if v.arr=true\/v.ty≠1 then (10,line)else gS (n7 vs 1 conds) (uq vs blocks))
  else if op=5 then gS (ew vs val 2) (uq vs blocks)
  else if op=6 then gS (uq vs blocks) (ew vs val 2)
  else if op=7 then (if D=true then (0,0)else (14,line))
  else if op=9 then (match bj vs name with
   |none=>(9,line)
   |some v=>if v.ty<=2 then (10,line)else iU vs v.ty line fields conds [])
  else (0,0)
def fa(vs:List Vr)(D:Bool):List Sm->EL
 |[]=>(0,0)
 |x::r=>gS (lA vs D x) (fa vs D r)
def fj(vs:List Vr)(D:Bool):List Ex->List (List Sm)->EL
 |_,[]=>(0,0)
 |[],b::r=>gS (fa vs D b) (fj vs D [] r)
 |c::cs,b::r=>gS (ew vs c 2) (gS (fa vs D b) (fj vs D cs r))
def uq(vs:List Vr):List (List Sm)->EL
 |[]=>(0,0)
 |b::_=>fa vs true b
end
def My:List Vr->List Vr->Int->EL
 |[],_,_=>(0,0)
 |v::r,p,n=>if (bj p v.name).isSome then (11,v.line)else if 1024<n+cB v then (13,v.line)else My r (p++[v]) (n+cB v)
def lB(p:Pg):EL:=gS (My p.vars [] 0) (fa p.vars false p.body)
def jU{α:Type}(p:α->Bool):List α->Nat->Int
 |[],_=> -1
 |x::r,i=>if p x=true then i else jU p r (i+1)
def xS{α:Type}(p:α->Bool):∀(l:List α)(i:Nat),jU p l i= -1\/(i<=jU p l i/\jU p l i<i+l.length)
 |[],i=>.inl rfl
 |x::r,i=>by
  unfold jU;split
  .right;simp;omega
  .rcases xS p r (i+1)with h|h
   .exact .inl h
   .right;simp only[ac5];omega
def S5{k:Int}(h:tN k=true):10<=k/\k<=31:=by
 unfold tN dQ at h;by_cases D:10<=k/\k<=31
 .exact D
 .exfalso;have:zZ SZ k=[]:=by
   unfold SZ;simp only[zZ];repeat rw[aaf (by omega)]
  rw[this]at h;simp at h
def KW{v:Vr}(h:dr v=true):(v.ty=1\/v.ty=2)\/(10<=v.ty/\v.ty<=31/\tN v.ty=true):=by
 simp only[dr,Ds,ams,ac2]at h;rcases h.2.1.2 with h|h
 .exact .inl h
 .exact .inr ⟨(S5 h).1,(S5 h).2,h⟩
def qk{s:Tx}{v:Vr}:∀{l:List Vr},bj l s=some v->v∈l/\v.name=s
 |x::r,h=>by
  unfold bj at h;split at h
  .rename_i e;cases h;exact⟨by simp,e⟩
  .have:=qk h;exact⟨by simp[this.1],this.2⟩
end Go.Am
end
section
namespace Go.Am
open Go Go.ChangeShapes Go.WideShapes Go.RowKit
def F3(P:Program)(ok:TypeId->Bool):List Field->Nat->Nat->Bool
 |[],o,T=>o == T
 |f::r,o,T=>f.offset == o&&ok f.type&&F3 P ok r (o+P.cellsOf f.type) T
def typed(P:Program):Nat->TypeId->D->Prop
 |0,_,_=>False
 |n+1,t,d=>match P.underlying t with
  |some .bool=>∃b,d=.bool b
  |some (.int k)=>∃z,d=.int k z/\(Lit.int k z).wf=true
  |some .string=>∃s,d=.str s/\s.length<=maxLen
  |some (.slice e)=>∃xs,d=.list xs/\xs.length<=maxLen/\∀x∈xs,typed P n e x
  |some (.struct fs)=>∃U:List D,d=.agg (U.flatMap D.cells)/\U.length=fs.size/\∀(i:Nat)(f:Field)(y:D),fs[i]?=some f->U[i]?=some y->typed P n f.type y
  |_=>False
def Reads(w:World)(F:Nat->Prop)(d:D)(cs:List Value):Prop:=
 d.cells.length=cs.length/\(∀u∈cs,dk u=true)/\∀(i:Nat) c u,d.cells[i]?=some c->cs[i]?=some u->aR w F c u/\c.flat=true
def Reads.one{w F d v}(h:aR w F d v)(V:d.flat=true)(J:d.cells=[d]):Reads w F d [v]:=by
 refine⟨by rw[J];rfl,λu hu=>?_,λi c u I M=>?_⟩
 .simp at hu;subst hu;exact h.one V
 .rw[J]at I;cases i with
  |zero=>simp at I M;subst I;subst M;exact⟨h,V⟩
  |succ i=>simp at I
def shaped(d:D)(cs:List Value):Value:=
 match d with
 | .agg _=>.agg cs.toArray
 |_=>cs.headD undef
def Reads.rel{w F d cs}(h:Reads w F d cs):aR w F d (shaped d cs):=by
 obtain⟨I,M,O⟩:=h;have key:d.flat=true->d.cells=[d]->aR w F d (cs.headD undef):=by
  intro V J;rw[J]at I O;match cs,I with
  |[u],_=>exact (O 0 d u rfl rfl).1
 cases d with
 |agg Y=>exact aR.ss I M (λi c v J Z=>(O i c v J Z).1)
 |_=>exact key rfl rfl
def Reads.PJ{w F d cs}(h:Reads w F d cs):(shaped d cs).cells.toList=cs:=by
 obtain⟨I,M,O⟩:=h;have key:d.cells=[d]->(cs.headD undef).cells.toList=cs:=by
  intro J;rw[J]at I;match cs,I,M with
  |[u],_,M=>simp only[List.headD];rw[fA (M u (by simp))]
 cases d with
 |agg Y=>simp[shaped,Value.cells]
 |_=>exact key rfl
def JB{w:World}{base:Nat}{a:Addr}{n:Nat}{cs:List Value}(h:w.cells? base a n=some cs):cs.length=n/\∀j,j<n->w.cell? (a.add j)=cs[j]?:=by
 unfold World.cells? at h;split at h
 .exact⟨by simpa using mapM_some_length h,λj A'=>mapM_some_get h j j (by simp[A'])⟩
 .cases h
def add_add{b off n j:Nat}:(Addr.add (Addr.add ⟨b,off,none⟩ n) j)=⟨b,off+n+j,none⟩:=by
 unfold Addr.add;split<;>split<;>simp_all
def HP{w:World}{a:Addr}{c:Value}(h:w.cell? a=some c):a.block<w.heap.size/\a.spot=none:=by
 unfold World.cell? at h;split at h
 .rename_i hh;refine⟨(aet.1 hh).1,?_⟩;split at h
  .cases h
  .rename_i A0;simpa using A0
 .cases h
section
variable {H:Type} {enc:TypeId×Value->H} {P:Program} {w:World} {base:Nat} {sp:Nat->Bool} {held:Bool}
end
end Go.Am
end
section
namespace Go.Am
open Go Go.ChangeShapes Go.WideShapes Go.RowKit
section
variable {H:Type} {enc:TypeId×Value->H} {P:Program} {w:World} {base:Nat} {sp:Nat->Bool} {held:Bool}
theorem DL(Y:laidOutB P=true){W A':World}(I:Below W.heap.size W A'):∀{ts:List TypeId}{vs:List Value}{J:List (DataW H)}{ps:List MemPlace},DataW.TrodAll enc P W 0 (λ_=>true) true ts vs J ps->
 (∀t∈ts,P.readableRec t=true/\t<P.types.size)->(∀x∈ps,x.block<W.heap.size)->DataW.TrodAll enc P A' 0 (λb=>decide (b<W.heap.size)) true ts vs J ps
 |[],[],[],_,h,_,_=>h
 |t::ts,v::vs,d::J,ps,h,A6,AA=>by
  obtain⟨p,q,O,A1,rfl⟩:=h;exact⟨p,q,Below.trod Y (A6 t (by simp)).1 (A6 t (by simp)).2 O I (λx T=>AA x (by simp[T])),DL Y I A1 (λt M=>A6 t (by simp[M])) (λx T=>AA x (by simp[T])),rfl⟩
 |[],_::_,_,_,h,_,_=>by cases h
 |[],[],_::_,_,h,_,_=>by cases h
 |_::_,[],_,_,h,_,_=>by cases h
 |_::_,_::_,[],_,h,_,_=>by cases h
end
section
variable {P:Program} {n:Nat} {t:TypeId} {d:D}
def F4(P:Program)(n:Nat):List Field->List D->Prop
 |[],J=>J=[]
 |f::r,J=>∃y AB,typed P n f.type y/\F4 P n r AB/\J=y.cells++AB
theorem JC:∀{fs:List Field}{Z:List D},Z.length=fs.length->(∀(i:Nat)(f:Field)(y:D),fs[i]?=some f->Z[i]?=some y->typed P n f.type y)->F4 P n fs (Z.flatMap D.cells)
 |[],[],_,_=>rfl
 |f::fs,y::Z,h,AC=>⟨y,Z.flatMap D.cells,AC 0 f y rfl rfl,JC (by simpa using h) (λi f y O A1=>AC (i+1) f y (by simpa using O) (by simpa using A1)),by simp⟩
theorem YG{k:IntKind}(M:P.underlying t=some (.int k))(h:typed P (n+1) t d):∃z,d=.int k z/\(Lit.int k z).wf=true:=by simpa only[typed,M]using h
theorem VW(M:P.underlying t=some .bool)(h:typed P (n+1) t d):∃b,d=.bool b:=by simpa only[typed,M]using h
theorem PK(M:P.underlying t=some .string)(h:typed P (n+1) t d):∃s,d=.str s/\s.length<=maxLen:=by simpa only[typed,M]using h
theorem Sf{e:TypeId}(M:P.underlying t=some (.slice e))(h:typed P (n+1) t d):∃xs,d=.list xs/\xs.length<=maxLen/\∀x∈xs,typed P n e x:=by simpa only[typed,M]using h
theorem PN{fs:Array Field}(M:P.underlying t=some (.struct fs))(h:typed P (n+1) t d):∃J,d=.agg J/\F4 P n fs.toList J:=by
 simp only[typed,M]at h;obtain⟨Z,rfl,O,A1⟩:=h;exact⟨_,rfl,JC (by simpa using O) (λi f y AE AF=>A1 i f y (by simpa using AE) AF)⟩
end
def aio(X:Ctx):Bool:=
 (List.range X.P.funcs.size).all (λg=>match X.P.funcs[g]? with|some fn=>fn.name != "runtime.NumGoroutine" &&(match fn.body with|some c=>!((X.fp g).sites.all λk=>decide (100<=k))||gu X g fn.ntmps c|none=>true)|none=>true)&&X.P.follows .mixedOrders&&X.ov.isNone
def vD(X:Ctx)(g:FuncId)(h:List AV->Option AV):Prop:=jM X.P g=true/\∀(A2:List AV)(a:AV),h A2=some a->∀(φ:cC)(F:Nat->Prop)(w:World)(vs:Array Value),gr w F X.gl->(∀b,F b->b<w.heap.size)->A2.length=vs.size->
 (∀(i:Nat) x v,A2[i]?=some x->vs[i]?=some v->aG φ w F x v)->Calls X.P g vs w λe w'=>∃v,e=.returned v/\Below w.heap.size w w'/\aG φ w' F a v
def vD.lift{X:Ctx}{g:FuncId}{h:List D->Option D}(hh:jM X.P g=true/\∀(J:List D) (d:D),h J=some d->∀(F:Nat->Prop) (w:World) (vs:Array Value),gr w F X.gl->(∀b,F b->b<w.heap.size)->J.length=vs.size->
 (∀(i:Nat) x v,J[i]?=some x->vs[i]?=some v->aR w F x v)->Calls X.P g vs w λe w'=>∃v,e=.returned v/\Below w.heap.size w w'/\aR w' F d v):vD X g (FN h):=by
 refine⟨hh.1,λA2 a A3 φ F w vs AG AH Y A7=>?_⟩;unfold FN at A3;cases A8:toDs A2 with
 |none=>rw[A8]at A3;cases A3
 |some J=>
  rw[A8]at A3;obtain⟨d,A9,rfl⟩:=ac3.1 A3;have he:=toDs_eq A8;subst he;refine (hh.2 J d A9 F w vs AG AH (by simpa using Y) (λi x v T A4=>?_)).mono ?_
  .have:=A7 i (.d x) v (by simp[T]) A4;cases this with|d _ _ h=>exact h
  .rintro e w' ⟨v,rfl,I,A4⟩;exact⟨v,rfl,I,.d _ _ A4⟩
def m8.of{X:Ctx}(h:aio X=true)(A5:∀g h,X.Bu g=some h->vD X g h):m8 X:=by
 simp only[aio,Ds,adp,aej]at h;have key:∀(g:FuncId)(fn:Func),X.P.funcs[g]?=some fn->fn.name≠ "runtime.NumGoroutine" /\(match fn.body with|some c=>!((X.fp g).sites.all λk=>decide (100<=k))||gu X g fn.ntmps c|none=>true)=true:=by
  intro g fn U;have O:=h.1.1 g (aet.1 U).1;rw[U]at O;simpa using O
 refine⟨by simpa using h.2,λg fn U=>(key g fn U).1,λg fn c U I AI=>?_,h.1.2,A5⟩;have:=(key g fn U).2;rw[I]at this;have e:((X.fp g).sites.all λk=>decide (100<=k))=true:=adp.2 λk V=>ahl (AI k V);simpa [e]using this
def A0{α:Type}{f:α->D}:∀{xs:List D},(∀x∈xs,∃r,x=f r)->∃rs:List α,xs=rs.map f
 |[],_=>⟨[],rfl⟩
 |x::xs,h=>by
  obtain⟨r,rfl⟩:=h x (by simp);obtain⟨rs,rfl⟩:=A0 (xs:=xs) (λy AJ=>h y (by simp[AJ]));exact⟨r::rs,rfl⟩
def fr0:Fr:=⟨λ_=>False,[]⟩
def YH{X:Ctx}(AK:m8 X){f:FuncId}{b:Bool}{xs:List D}(AL:aj X f (xs.map .d) []=some (.ret (.d (.bool b)),[])){W:World}{args:Array Value}(Y:xs.length=args.size)
 (A7:∀(i:Nat) x v,xs[i]?=some x->args[i]?=some v->aR W (λ_=>False) x v) (U:gr W (λ_=>False) X.gl):
 Calls X.P f args W λe A'=>e=.returned (.bool b)/\Below W.heap.size W A':=by
 have h:=(abd AK f _ _ _ _ AL).2;have AD:∀b,Fo fr0 (λ_=>none) (fh 0 []) b->False:=by
  intro b I;rcases I with I|⟨e,he,_⟩
  .exact I
  .simp[fh]at he
 refine (h (λ_=>none) fr0 W args ⟨by simp[fh],λk L AM=>by simp at AM,λe he=>by simp[fh]at he,λe he=>by simp[fh]at he,λb ⟨e,he,_⟩=>by simp[fh]at he,λb I=>I.elim⟩
  (U.mono (λ_ _ _=>rfl) (aar _) (λb _ I=>AD b I)) (by simpa using Y) (λi x v T A4=>?_)).mono ?_
 .simp only[adn,ac3]at T;obtain⟨d,A9,rfl⟩:=T;exact .d d v ((A7 i d v A9 A4).mono (λ_ _ _=>rfl) (aar _) (λb _ I=>AD b I))
 .rintro e A' ⟨φ',m',out,⟨rfl,rfl⟩,hm,V,A5⟩;refine⟨?_,V.os,V.tape,V.output,V.size,λk AN=>V.DU k AN (λ⟨e,he,_⟩=>by simp[fh]at he)⟩;cases e with
  |returned v=>
   simp only[rF]at A5;cases A5 with
   |d x v h=>cases h;rfl
  |_=>exact A5.elim
section
variable {H:Type} {enc:TypeId×Value->H}
end
end Go.Am
end
section
namespace Go.Am
open Go Go.ChangeShapes Go.WideShapes Go.RowKit
def E5(P:Program)(L:List TypeId):Bool:=L.all λt=>match P.underlying t with
 |some .bool|some (.int _)|some .string=>P.cellsOf t == 1
 |some (.slice e)=>P.cellsOf t == 1&&L.contains e&&decide (1<=P.cellsOf e)
 |some (.struct fs)=>F3 P (λt=>L.contains t) fs.toList 0 (P.cellsOf t)
 |_=>false
def Mz{P:Program}{L:List TypeId}{t:TypeId}(h:E5 P L=true)(D:L.contains t=true):(match P.underlying t with
 |some .bool|some (.int _)|some .string=>P.cellsOf t == 1
 |some (.slice e)=>P.cellsOf t == 1&&L.contains e&&decide (1<=P.cellsOf e)
 |some (.struct fs)=>F3 P (λt=>L.contains t) fs.toList 0 (P.cellsOf t)
 |_=>false)=true:=adp.1 h t (by simpa using D)
section
variable {H:Type} {enc:TypeId×Value->H} {P:Program} {w:World} {base:Nat} {sp:Nat->Bool} {held:Bool}
end
section
variable {H:Type} {enc:TypeId×Value->H}
end
end Go.Am
end
section
namespace Go.Am
open Go Go.ChangeShapes Go.WideShapes Go.RowKit
mutual
def fw:D->Nat
 | .str s=>s.length+1
 | .list xs=>cq xs+1
 | .agg cs=>cq cs+1
 |_=>1
def cq:List D->Nat
 |[]=>0
 |x::r=>fw x+cq r
end
mutual
def kF{H:Type}:DataW H->Nat
 | .lit (.string bytes)=>bytes.length+1
 | .slice elems _=>jy elems+1
 | .agg parts=>jy parts+1
 |_=>1
def jy{H:Type}:List (DataW H)->Nat
 |[]=>0
 |d::r=>kF d+jy r
end
def uW:∀l r:List D,cq (l++r)=cq l+cq r
 |[],r=>by simp[cq]
 |x::l,r=>by simp[cq,uW l r,adv]
def VX(x:D):cq x.cells<=fw x:=by
 cases x<;>simp[D.cells,cq,fw]
def aip(x:D):1<=fw x:=by cases x<;>simp[fw]
def qn:∀l:List D,l.length<=cq l
 |[]=>by simp
 |x::r=>by have:=qn r;have:=aip x;simp only[cq,ac5];omega
def PO:∀{l:List D}{x:D},x∈l->fw x<=cq l
 |y::r,x,h=>by
  rcases ac4.1 h with rfl|h
  .simp only[cq];omega
  .have:=PO h;simp only[cq];omega
def S6{H:Type}:∀(l:List D)(T:List (DataW H)),l.length=T.length->(∀(i:Nat) x d,l[i]?=some x->T[i]?=some d->fw x<=kF d)->cq l<=jy T
 |[],[],_,_=>aar _
 |x::l,d::T,h,hi=>by
  have U:=hi 0 x d rfl rfl;have A3:=S6 l T (by simpa using h) (λi y e Y he=>hi (i+1) y e (by simpa using Y) (by simpa using he));simp only[cq,jy];omega
 |[],_::_,h,_=>by simp at h
 |_::_,[],h,_=>by simp at h
def DM{H:Type}{P:Program}{w:World}{F:Nat->Prop}{n:Nat}{cs:List Value}{ok:TypeId->Bool}:∀(fs:List Field)(ws:List (DataW H))(o:Nat),F3 P ok fs o cs.length=true->ws.length=fs.length->
 (∀(i:Nat) f e,fs[i]?=some f->ws[i]?=some e->ok f.type=true->∃d,typed P n f.type d/\Reads w F d ((cs.drop f.offset).take (P.cellsOf f.type))/\d.cells.length=P.cellsOf f.type/\fw d<=kF e)->
 ∃A':List D,A'.length=fs.length/\(∀(i:Nat)(f:Field)(y:D),fs[i]?=some f->A'[i]?=some y->typed P n f.type y)/\o<=cs.length/\Reads w F (.agg (A'.flatMap D.cells)) (cs.drop o)/\cq (A'.flatMap D.cells)<=jy ws
 |[],[],o,I,_,_=>by
  simp only[F3,beq_iff_eq]at I;subst I;exact⟨[],rfl,λi f y A1=>by simp at A1,aar _,⟨by simp[D.cells],by simp,λi c u U=>by simp[D.cells]at U⟩,by simp[cq,jy]⟩
 |f::r,e::ws,o,I,hw,A1=>by
  simp only[F3,Ds,beq_iff_eq]at I;obtain⟨⟨rfl,AG⟩,AH⟩:=I;obtain⟨A',U,A3,V,O,A4⟩:=DM r ws _ AH (by simpa using hw) (λi AI e' hi he=>A1 (i+1) AI e' (by simpa using hi) (by simpa using he));obtain⟨d,A0,A7,A5,A9⟩:=A1 0 f e rfl rfl AG;refine⟨d::A',by simp[U],λi AI y hi Y=>?_,by omega,?_,?_⟩
  .cases i with
   |zero=>simp at hi Y;subst hi;subst Y;exact A0
   |succ i=>simp at hi Y;exact A3 i AI y hi Y
  .have Ad:cs.drop f.offset=(cs.drop f.offset).take (P.cellsOf f.type)++cs.drop (f.offset+P.cellsOf f.type):=by
    rw[<-List.drop_drop,air]
   obtain⟨AU,a2,a3⟩:=A7;obtain⟨Ae,Af,Ag⟩:=O;have Ah:(D.agg ((d::A').flatMap D.cells)).cells=d.cells++(D.agg (A'.flatMap D.cells)).cells:=by simp[D.cells]
   rw[Ad];unfold Reads;rw[Ah];refine⟨by simp only[acY,AU,Ae],λu hu=>?_,λi c u A6 hu=>?_⟩
   .rcases ada.1 hu with hu|hu
    .exact a2 u hu
    .exact Af u hu
   .by_cases hi:i<d.cells.length
    .rw[ac9 hi]at A6;rw[ac9 (by omega)]at hu;exact a3 i c u A6 hu
    .rw[adb (by omega)]at A6;rw[adb (by omega)]at hu;rw[<-AU]at hu;exact Ag _ c u A6 hu
  .have A6:=VX d;simp only[List.flatMap_cons,uW,jy];omega
 |[],_::_,_,_,h,_=>by simp at h
 |_::_,[],_,_,h,_=>by simp at h
section
variable {H:Type} {enc:TypeId×Value->H} {P:Program} {w:World} {base:Nat} {sp:Nat->Bool} {held:Bool}
theorem C3{L:List TypeId}(A2:E5 P L=true):∀(m:Nat)(t:TypeId)(cs:List Value)(x:DataW H×List MemPlace),L.contains t=true->DataW.trod enc P w base sp held m t cs=some x->
 ∃d,typed P (m+1) t d/\Reads w (λ_=>False) d cs/\d.cells.length=P.cellsOf t/\fw d<=kF x.1
 |m,t,cs,x,J,M=>by
  have J:=Mz A2 J;simp only[typed];cases I:P.underlying t with
  |none=>rw[I]at J;cases J
  |some u=>
   rw[I]at J;cases u with
   |bool=>
    obtain⟨b,rfl,rfl⟩:=DataW.trod_bool I M;exact⟨.bool b,⟨b,rfl⟩,Reads.one (.bool b) rfl rfl,by simp at J;simp[D.cells,J],by simp[fw,kF]⟩
   |int k=>
    obtain⟨z,rfl,rfl,hw⟩:=DataW.trod_int I M;exact⟨.int k z,⟨z,rfl,hw⟩,Reads.one (.int k z) rfl rfl,by simp at J;simp[D.cells,J],by simp[fw,kF]⟩
   |string=>
    obtain⟨s,rfl,rfl,hw⟩:=DataW.trod_string I M;exact⟨.str s.data.toList,⟨_,rfl,by simpa using hw⟩,Reads.one (.str s _ rfl) rfl rfl,by simp at J;simp[D.cells,J],by simp[fw,kF]⟩
   |slice e=>
    simp only[Ds,beq_iff_eq,ac2]at J;obtain⟨⟨U,A3⟩,V⟩:=J;rcases DataW.trod_slice I M with ⟨rfl,rfl⟩|⟨a,len,cap,elems,rest,m',rfl,rfl,rfl,AJ,Ai,B3,B4,AC,_⟩
    .exact⟨.list [],⟨[],rfl,by simp,by simp⟩,Reads.one (.nil none 0 (λ_=>rfl)) rfl rfl,by simp[D.cells,U],by simp[fw,cq,kF]⟩
    .have A8:∀i,∃p:D×Value,i<len->typed P (m'+1) e p.1/\aR w (λ_=>False) p.1 p.2/\p.1.size=P.cellsOf e/\a.block<w.heap.size/\a.spot=none/\
      (∀j c,p.2.cells[j]?=some c->w.cell? ⟨a.block,a.off+i*P.cellsOf e+j,none⟩=some c)/\∀q,elems[i]?=some q->fw p.1<=kF q.1:=by
      intro i;by_cases hi:i<len
      .have O:=AC i hi;have A4:∃y,elems[i]?=some y:=⟨elems[i]'(by omega),by simp[show i<elems.length by omega]⟩
       obtain⟨y,Y⟩:=A4;rw[Y]at O;simp only[agO]at O;obtain⟨AK,Aj,Ak⟩:=O;obtain⟨d,A0,A7,A5,A9⟩:=C3 A2 m' e AK y A3 Ak;obtain⟨g1,g2⟩:=JB Aj;have g3:a.block<w.heap.size/\a.spot=none:=by
        have AL:∃i0,i0<len/\i0=0:=⟨0,by omega,rfl⟩;have AM:=AC 0 (by omega);have Al:∃y,elems[0]?=some y:=⟨elems[0]'(by omega),by simp[show 0<elems.length by omega]⟩
        obtain⟨B5,An⟩:=Al;rw[An]at AM;simp only[agO]at AM;obtain⟨AN,Ao,_⟩:=AM;obtain⟨B6,Ap⟩:=JB Ao;have AD:=Ap 0 (by omega);have AE:∃c,AN[0]?=some c:=⟨AN[0]'(by omega),by simp[show 0<AN.length by omega]⟩
        obtain⟨c,A6⟩:=AE;rw[A6]at AD;have AF:=HP AD;simpa [Addr.add]using AF
       refine⟨⟨d,shaped d AK⟩,λ_=>⟨A0,A7.rel,by rw[<-D.je];exact A5,g3.1,g3.2,λj c AA=>?_,λq A8=>by rw[Y]at A8;cases A8;exact A9⟩⟩;have AD:=A7.PJ;have AE:AK[j]?=some c:=by rw[<-AD];simpa using AA
       have Aq:j<P.cellsOf e:=by
        have:=(aap.1 AE).1;omega
       have AF:=g2 j Aq;obtain⟨AV,ao,AO⟩:=a;obtain rfl:AO=none:=g3.2;rw[add_add]at AF;rw[AF];exact AE
      .exact⟨⟨.bool false,undef⟩,λh=>absurd h hi⟩
     obtain⟨f,A1⟩:=ahg A8;refine⟨.list ((List.range len).map λi=>(f i).1),⟨_,rfl,by simp;omega,λx M=>?_⟩,Reads.one ?_ rfl rfl,by simp[D.cells,U],?_⟩
     .simp only[adk,aej]at M;obtain⟨i,hi,rfl⟩:=M;exact (A1 i hi).1
     .by_cases A5:len=0
      .subst A5;exact .nil (some a) cap (λh=>by cases h)
      .have AL:=A1 0 (by omega);obtain⟨AV,ao,AO⟩:=a;obtain rfl:AO=none:=AL.2.2.2.2.1;have AB:((List.range len).map λi=>(f i).1).length=len:=by simp
       have:=aR.list (w:=w) (F:=λ_=>False) ((List.range len).map λi=>(f i).1) AV ao cap (P.cellsOf e) (λi=>(f i).2) (by rw[AB];exact Ai) AL.2.2.2.1 (λh=>h)
        (λd A0=>by
         simp only[adk,aej]at A0;obtain⟨i,hi,rfl⟩:=A0;exact (A1 i hi).2.2.1)
        (λi d A0=>by
         simp only[adn,ac3]at A0;obtain⟨B7,Ar,rfl⟩:=A0;have:=aap.1 Ar;obtain⟨AW,AX⟩:=this;simp at AW AX;subst AX;exact (A1 _ AW).2.1)
        (λi j c hi AA=>by
         rw[AB]at hi;exact (A1 i hi).2.2.2.2.2.1 j c AA)
       rw[AB]at this;exact this
     .simp only[fw,kF];refine Nat.succ_le_succ (S6 _ _ (by simp;omega) λi x d M A0=>?_);simp only[adn,ac3]at M A0;obtain⟨j,AA,rfl⟩:=M;obtain⟨q,A8,rfl⟩:=A0;obtain⟨AY,AZ⟩:=aap.1 AA;simp at AY AZ;subst AZ;exact (A1 i AY).2.2.2.2.2.2 q A8
   |struct fs=>
    obtain⟨xs,m',rfl,rfl,A5,As,AC⟩:=DataW.trod_struct I M;simp only at J;rw[<-A5]at J;obtain⟨A',U,A3,_,O,A4⟩:=DM (n:=m'+1) (w:=w) (F:=λ_=>False) fs.toList (xs.map (·.1)) 0 J (by simpa using As) (λi f e hi he AG=>by
     simp only[adn,ac3]at he;obtain⟨y,Y,rfl⟩:=he;have A4:=AC i f (by simpa using hi);rw[Y]at A4;exact C3 A2 m' f.type _ y AG A4)
    refine⟨.agg (A'.flatMap D.cells),⟨A',rfl,by simpa using U,λi f y hi Y=>A3 i f y (by simpa using hi) Y⟩,by simpa using O,?_,?_⟩
    .have:=O.1;rw[this];simpa using A5
    .simp only[fw,kF];omega
   |_=>cases J
theorem abw{L:List TypeId}(A2:E5 P L=true){t:TypeId}{v:Value}{d:DataW H}{ps:List MemPlace}{b0:Nat}(J:L.contains t=true)(Z:Value.okWide P w .any b0 t v)(h:DataW.Trod enc P w base sp held t v d ps):
 ∃n x,typed P n t x/\aR w (λ_=>False) x v/\fw x<=kF d:=by
 obtain⟨m,hm⟩:=h;obtain⟨x,M,A7,_,A9⟩:=C3 A2 m t _ _ J hm;refine⟨m+1,x,M,?_,A9⟩;have U:=A7.rel
 .have J:=Mz A2 J;simp only[typed]at M;cases I:P.underlying t with
  |none=>rw[I]at J;cases J
  |some u=>
   rw[I]at J M;cases u with
   |bool=>obtain⟨b,rfl⟩:=okWide_bool I Z;obtain⟨y,rfl⟩:=M;exact U
   |int k=>obtain⟨b,rfl⟩:=okWide_int I Z;obtain⟨y,rfl,_⟩:=M;exact U
   |string=>obtain⟨b,rfl⟩:=okWide_string I Z;obtain⟨y,rfl,_⟩:=M;exact U
   |slice e=>obtain⟨a,len,cap,rfl⟩:=okWide_slice I Z;obtain⟨y,rfl,_⟩:=M;exact U
   |struct fs=>
    simp only[Value.okWide,I]at Z;obtain⟨cs,rfl,_⟩:=Z;obtain⟨A',rfl,_⟩:=M;simpa [shaped,Value.cells]using U
   |_=>cases J
theorem MA{L:List TypeId}(A2:E5 P L=true){b0:Nat}:∀{ts:List TypeId}{vs:List Value}{T:List (DataW H)}{ps:List MemPlace},DataW.TrodAll enc P w base sp held ts vs T ps->(∀t∈ts,L.contains t=true)->
 (∀(j:Nat) t v,ts[j]?=some t->vs[j]?=some v->Value.okWide P w .any b0 t v)->
 ∃xs:List D,xs.length=vs.length/\xs.length=ts.length/\(∀(i:Nat) t x,ts[i]?=some t->xs[i]?=some x->∃n,typed P n t x)/\(∀(i:Nat) x v,xs[i]?=some x->vs[i]?=some v->aR w (λ_=>False) x v)/\cq xs<=jy T
 |[],[],[],_,_,_,_=>⟨[],rfl,rfl,λi t x h=>by simp at h,λi x v h=>by simp at h,by simp[cq,jy]⟩
 |t::ts,v::vs,d::T,ps,h,J,Z=>by
  obtain⟨p,q,U,A3,_⟩:=h;obtain⟨n,x,M,AH,A9⟩:=abw A2 (J t (by simp)) (Z 0 t v rfl rfl) U;obtain⟨xs,g1,g2,g3,g4,g5⟩:=MA A2 A3 (λt I=>J t (by simp[I])) (λj t v V O=>Z (j+1) t v (by simpa using V) (by simpa using O));refine⟨x::xs,by simp[g1],by simp[g2],λi At AP V O=>?_,λi AP Au V O=>?_,by simp only[cq,jy];omega⟩
  .cases i with
   |zero=>simp at V O;subst V;subst O;exact⟨n,M⟩
   |succ i=>simp at V O;exact g3 i At AP V O
  .cases i with
   |zero=>simp at V O;subst V;subst O;exact AH
   |succ i=>simp at V O;exact g4 i AP Au V O
 |[],_::_,_,_,h,_,_=>by cases h
 |[],[],_::_,_,h,_,_=>by cases h
 |_::_,[],_,_,h,_,_=>by cases h
 |_::_,_::_,[],_,h,_,_=>by cases h
end
section
variable {H:Type} {enc:TypeId×Value->H}
theorem Ns{X:Ctx}(Av:m8 X){f:FuncId}{fn:Func}{s:ChangeSpec}{apart fresh handsOn:Bool}{L:List TypeId}{tb:TypeId}(A2:E5 X.P L=true)
 (Aw:laidOutB X.P=true) (AQ:(fn.params.toList.all λt=>X.P.readableRec t&&decide (t<X.P.types.size)&&L.contains t)=true)
 (Ax:fn.resultTypes=#[tb]) (Ay:X.P.underlying tb=some .bool) (A_:s.vars=[])
 (Az:∀T:List (DataW H),T.length=fn.params.size->s.fn H T={results:=[.lit (.bool true)],args:=T})
 {W:World} {base:Nat} {args:Array Value} {T gs:List (DataW H)} {before:List MemPlace}
 (B':∀(j:Nat) t v,fn.params[j]?=some t->args[j]?=some v->Value.okWide X.P W .any base t v)
 (Aa:DataW.Whole enc X.P fn.params.toList s.vars apart W args.toList T gs before) (B0:gr W (λ_=>False) X.gl)
 (B1:∀xs:List D,xs.length=fn.params.size->(∀(i:Nat) t x,fn.params[i]?=some t->xs[i]?=some x->∃n,typed X.P n t x)->cq xs<=jy T->aj X f (xs.map .d) []=some (.ret (.d (.bool true)),[])):
 Calls X.P f args W λe Ab=>∃v,e=.returned v/\s.post enc X.P fn apart fresh handsOn false W args v Ab:=by
 have Ac:=Aa;obtain⟨p,q,AR,AS,rfl,B8,B9⟩:=Aa;rw[A_]at AS;obtain⟨rfl,rfl⟩:gs=[]/\q=[]:=by
  cases gs with
  |nil=>exact⟨rfl,AS⟩
  |cons g r=>exact absurd AS (by intro h;cases h)
 simp only[adp,Ds,ac2]at AQ;obtain⟨xs,U,A3,V,O,A4⟩:=MA A2 (b0:=base) AR (λt I=>(AQ t I).2) (λj t v I Z=>B' j t v (by simpa using I) (by simpa using Z));have AB:=trodAll_length AR;refine (YH Av (B1 xs (by simpa using A3) (λi t x I M=>V i t x (by simpa using I) M) A4) (by simpa using U) (λi x v M Z=>O i x v M (by simpa using Z)) B0).mono ?_;rintro e Ab ⟨rfl,AJ⟩;have B2:∀x∈p,x.block<W.heap.size:=λx M=>by simpa using Ac.lt x (by simpa using M)
 have AT:s.fn H (T++[])={results:=[.lit (.bool true)],args:=T}:=by
  rw[agV];exact Az T (by simpa using AB.2)
 refine⟨_,rfl,T,[],p++[],[],p,[],Ac,?_,?_,?_,AJ.frame _,λh=>by cases h⟩
 .rw[AT,Ax];exact trodAll_mk1 (shut_bool Ay true)
 .rw[AT];exact DL Aw AJ AR (λt I=>(AQ t I).1) B2
 .rw[AT,A_];rfl
end
end Go.Am
end
section
namespace Go.Am
open Go
set_option maxRecDepth 20000
set_option maxHeartbeats 4000000
mutual
def dt:Ex->Bool
 | .mk _ n _ _ sub _=>decide (-9223372036854775808<=n/\n<=9223372036854775807)&&da sub
def da:List Ex->Bool
 |[]=>true
 |x::r=>dt x&&da r
end
def wY(n:Int):Bool:=decide (-9223372036854775808<=n/\n<=9223372036854775807)
mutual
def ka:Sm->Bool
 | .mk _ _ to val conds D _ blocks _=>dt to&&(dt val&&(da conds&&(D.all (λl=>l.all wY)&&fJ blocks)))
def gN:List Sm->Bool
 |[]=>true
 |x::r=>ka x&&gN r
def fJ:List (List Sm)->Bool
 |[]=>true
 |b::r=>gN b&&fJ r
end
def z7(n:Int):Int:=IntKind.i64.wrap (-n)
def kQ(x:Ex):Option (Int×Bool):=
 if bQ x=1 then some (iS x,false)
 else if bQ x=2 then some (iS x,true)
 else if bQ x=6 then (match di x with
  |[y]=>if bQ y=1 then some (z7 (iS y),false)else none
  |_=>none)
 else none
def qK:List Ex->Option (List (Int×Bool))
 |[]=>some []
 |x::r=>match kQ x with
  |some p=>(match qK r with
   |some l=>some (p::l)
   |none=>none)
  |none=>none
def nG(n:Int)(t:Bool)(line:Int):Ex:=
 if t=true then .mk 2 n [] [] [] line
 else if 0<=n then .mk 1 n [] [] [] line
 else .mk 6 0 [] [] [.mk 1 (z7 n) [] [] [] line] line
def E6(op:Int):List (Int×Bool)->Option (Int×Bool×Int)
 |[a]=>some (jl op a.1 a.2)
 |[a,b]=>if a.2=b.2 then some (gR op a.1 b.1 a.2)else none
 |_=>none
def nb(x:Ex):Ex:=
 if bQ x<6\/(kQ x).isSome then x
 else match qK (di x)with
  |none=>x
  |some l=>match E6 (bQ x) l with
   |none=>x
   |some r=>if r.2.2≠0\/(r.2.1=false/\r.1= -9223372036854775808)then x else nG r.1 r.2.1 (lQ x)
mutual
def dF:Ex->Ex
 | .mk op n name field sub line=>nb (.mk op n name field (db sub) line)
def db:List Ex->List Ex
 |[]=>[]
 |x::r=>dF x::db r
end
def lq:∀l:List Ex,db l=l.map dF
 |[]=>rfl
 |x::r=>by simp[db,lq r]
mutual
def ur:Sm->Sm
 | .mk op name to val conds D fields blocks line=>.mk op name (dF to) (dF val) (db conds) D fields (jt blocks) line
def dW:List Sm->List Sm
 |[]=>[]
 |x::r=>ur x::dW r
def jt:List (List Sm)->List (List Sm)
 |[]=>[]
 |b::r=>dW b::jt r
end
def MB(p:Pg):Pg:=⟨p.name,p.vars,dW p.body⟩
def E7:Vr:=⟨[],0,0,false,0,0,0,0⟩
def qo:List Vr->Tx->Int->Int×Vr
 |[],_,_=>(0,E7)
 |v::r,s,n=>if v.name=s then (n,v)else qo r s (n+cB v)
def bu(vs:List Vr)(s:Tx):Int×Vr:=qo vs s 0
def bW:List Vr->Int
 |[]=>0
 |v::r=>cB v+bW r
def E8:List Pn->Tx->Nat->Option (Nat×Pn)
 |[],_,_=>none
 |p::r,s,i=>if p.name=s then some (i,p)else E8 r s (i+1)
def KX:Pn:=⟨[],0,false⟩
def eH(vs:List Vr)(s f:Tx):Int×Pn:=
 if (bj vs s).isSome=true/\2<(bu vs s).2.ty/\f≠[]then
  (match E8 (dQ (bu vs s).2.ty) f 0 with
   |some (i,p)=>((bu vs s).1+i,p)
   |none=>(0,KX))
 else (0,KX)
def pc(k:Nat)(x:ar):ar:=if (x.op=9\/x.op=10)/\0<=x.a then {x with a:=x.a+k} else x
def jj(k:Nat)(l:List ar):List ar:=l.map (pc k)
def jn(a b:List ar):List ar:=a++jj a.length b
def uu(to:Int)(x:ar):ar:=if x.op=9/\x.a= -1 then {x with a:=to} else x
def n8(to:Int)(x:ar):ar:=if x.op=9/\x.a= -2 then {x with a:=to} else x
def ins(op a b n m:Int):ar:=⟨op,a,b,n,m⟩
mutual
def ai(vs:List Vr):Ex->List ar×Bool
 | .mk op n name field sub _=>
  if op=1\/op=2 then ([ins 1 0 0 n 0],decide (op=2))
  else if op=3 then ([ins (1+(bu vs name).2.ty) (bu vs name).1 0 0 0],decide ((bu vs name).2.ty=2))
  else if op=5 then ([ins (1+(eH vs name field).2.ty) (eH vs name field).1 0 0 0],decide ((eH vs name field).2.ty=2))
  else if op=4 then (oQ vs sub++[ins (3+(bu vs name).2.ty) (bu vs name).1 0 (bu vs name).2.lo (bu vs name).2.hi],decide ((bu vs name).2.ty=2))
  else ((gO vs sub).1++[ins 8 (if (gO vs sub).2=true then 1 else 0) op 0 0],decide (op=7\/12<op))
def gO(vs:List Vr):List Ex->List ar×Bool
 |[]=>([],false)
 |[x]=>ai vs x
 |x::r=>((ai vs x).1++(gO vs r).1,(gO vs r).2)
def oQ(vs:List Vr):List Ex->List ar
 |[]=>[]
 |x::_=>(ai vs x).1
end
mutual
def aV(h:Int):Ex->Int
 | .mk op _ _ _ sub _=>if op=1\/op=2\/op=3\/op=5 then h+1 else max (h+1) (iF h sub)
def iF(h:Int):List Ex->Int
 |[]=>0
 |x::r=>max (aV h x) (iF (h+1) r)
end
def cF:List (List ar)->List (List ar)->List ar
 |_,[]=>[]
 |[],b::r=>if r=[]then b else jn (b++[ins 9 (b.length+1+(cF [] r).length) 0 0 0]) (cF [] r)
 |t::ts,b::r=>
  let out:=cF ts r
  let part:=if r=[]then b else b++[ins 9 (b.length+1+out.length) 0 0 0]
  jn (t++[ins 10 (t.length+1+part.length) 0 0 0]++jj (t.length+1) part) out
def dy(cell:Int):List Int->List ar
 |a::b::r=>ins 14 cell 0 a b::ins 8 1 21 0 0::dy cell r
 |_=>[]
def dC(vs:List Vr)(name:Tx):List Tx->List Ex->List ar
 |f::fs,x::xs=>(ai vs x).1++ins 6 (eH vs name f).1 0 0 0::dC vs name fs xs
 |_,_=>[]
def sm(l:List ar):List ar:=l.map (uu l.length)
def iK(t b:List ar):List ar:=sm (ins 11 0 0 0 0::t++[ins 10 (t.length+3+b.length) 0 0 0]++jj (t.length+2) b++[ins 9 0 0 0 0])
def mK(t b:List ar):List ar:=sm (b++ins 11 0 0 0 0::t++[ins 10 0 0 0 0])
def lI(at_ cell:Int)(b:List ar):List ar:=
 sm ([ins 11 0 0 0 0,ins 13 at_ cell 0 0,ins 10 (b.length+8) 0 0 0]++jj 3 b++[ins 2 at_ 0 0 0,ins 2 (cell+1) 0 0 0,ins 8 0 8 0 0,ins 6 at_ 0 0 0,ins 9 0 0 0 0])
mutual
def b8(vs:List Vr):Sm->Int->List ar×Int
 | .mk op name to val conds D fields blocks _,c=>
  if op=1 then
   (if bQ to=3 then (ai vs val).1++[ins 6 (bu vs (eh to)).1 0 0 0]
    else oQ vs (di to)++((ai vs val).1++[ins 7 (bu vs (eh to)).1 0 (bu vs (eh to)).2.lo (bu vs (eh to)).2.hi]),c)
  else if op=2 then (cF (conds.map λx=>(ai vs x).1) (ay vs blocks c).1,(ay vs blocks c).2)
  else if op=3 then (jn ((ai vs val).1++[ins 6 c 0 0 0]) (cF (D.map λl=>ins 1 0 0 0 0::dy c l) (ay vs blocks (c+1)).1),(ay vs blocks (c+1)).2)
  else if op=4 then (jn ((gO vs conds).1++[ins 6 (c+1) 0 0 0,ins 6 c 0 0 0,ins 6 (bu vs name).1 0 0 0]) (lI (bu vs name).1 c (lJ vs blocks (c+2)).1),(lJ vs blocks (c+2)).2)
  else if op=5 then (iK (ai vs val).1 (lJ vs blocks c).1,(lJ vs blocks c).2)
  else if op=6 then (mK (ai vs val).1 (lJ vs blocks c).1,(lJ vs blocks c).2)
  else if op=7 then ([ins 9 (-1) 0 0 0],c)
  else if op=8 then ([ins 9 (-2) 0 0 0],c)
  else (dC vs name fields conds++[ins 12 (bu vs name).1 (bu vs name).2.ty 0 0],c)
def ag(vs:List Vr):List Sm->Int->List ar×Int
 |[],c=>([],c)
 |x::r,c=>(jn (jn [ins 11 0 0 0 0] (b8 vs x c).1) (ag vs r (b8 vs x c).2).1,(ag vs r (b8 vs x c).2).2)
def ay(vs:List Vr):List (List Sm)->Int->List (List ar)×Int
 |[],c=>([],c)
 |b::r,c=>((ag vs b c).1::(ay vs r (ag vs b c).2).1,(ay vs r (ag vs b c).2).2)
def lJ(vs:List Vr):List (List Sm)->Int->List ar×Int
 |[],c=>([],c)
 |b::_,c=>ag vs b c
end
def nx:List Ex->Int
 |[]=>0
 |x::r=>max (aV 0 x) (nx r)
mutual
def jE:Sm->Int
 | .mk op _ to val conds D _ blocks _=>
  if op=1 then (if bQ to=3 then aV 0 val else max (iF 0 (di to)) (aV 1 val))
  else if op=2 then max (nx conds) (cS blocks)
  else if op=3 then max (aV 0 val) (max (if D=[]then 0 else 2) (cS blocks))
  else if op=4 then max (max (iF 0 conds) 3) (cS blocks)
  else if op=5\/op=6 then max (aV 0 val) (cS blocks)
  else if op=7\/op=8 then 0
  else nx conds
def bJ:List Sm->Int
 |[]=>0
 |x::r=>max (jE x) (bJ r)
def cS:List (List Sm)->Int
 |[]=>0
 |b::r=>max (bJ b) (cS r)
end
def sn(p:Pg):Option (List ar×Int×Int):=
 let g:=ag p.vars (dW p.body) (bW p.vars)
 if 4096<g.1.length+1\/64<bJ (dW p.body)then none
 else some (g.1.map (n8 g.1.length)++[ins 15 0 0 0 0],bW p.vars,g.2)
@[simp] def mP(k:Nat)(l:List ar):(jj k l).length=l.length:=by simp[jj]
@[simp] def so(l:List ar):(sm l).length=l.length:=by simp[sm]
def ei(a b:List ar):(jn a b).length=a.length+b.length:=by simp[jn]
def PT(k:Nat)(x:ar):(pc k x).op=x.op:=by unfold pc;split<;>rfl
def YI(k:Int)(x:ar):(uu k x).op=x.op:=by unfold uu;split<;>rfl
def YJ(k:Int)(x:ar):(n8 k x).op=x.op:=by unfold n8;split<;>rfl
def oR(vs:List Vr)(x:Sm)(c:Int):List ar:=jn [ins 11 0 0 0 0] (b8 vs x c).1
def PU(vs:List Vr)(x:Sm)(c:Int):(oR vs x c).length=(b8 vs x c).1.length+1:=by unfold oR;rw[ei];simp;omega
def BO{n:Int}(h: -9223372036854775808<n/\n<=9223372036854775807):z7 n= -n:=by
 unfold z7;simp only[IntKind.wrap,IntKind.bits,IntKind.signed];simp;omega
def ais(b:Bool):cg b=0\/cg b=1:=by cases b<;>simp[cg]
def S7(r:Int×Bool×Int)(t:Bool):Prop:=r.2.2=0->r.2.1=t/\(t=true->r.1=0\/r.1=1)/\(-9223372036854775808<=r.1/\r.1<=9223372036854775807)
def BP(t:Bool):S7 hU t:=λh=>by simp[hU]at h
def n9(b:Bool):S7 (cg b,true,0) true:=λ_=>by rcases ais b with h|h<;>simp[h]
def F5(z:Int):S7 (px (mm z)) false:=by
 intro h;unfold px mm at h⊢;split<;>simp_all;all_goals omega
def ait{a b:Int}(D: -9223372036854775808<=a/\a<=9223372036854775807)(h:¬(a= -9223372036854775808/\b= -1)): -9223372036854775808<=a.tdiv b/\a.tdiv b<=9223372036854775807:=by
 have M:(a.tdiv b).natAbs<=a.natAbs:=by rw[Int.natAbs_tdiv];exact Nat.div_le_self _ _
 by_cases hm:a= -9223372036854775808
 .by_cases H:b=1
  .subst H;simp only[Int.tdiv_one];omega
  .by_cases O:b=0
   .subst O;simp
   .have J:2<=b.natAbs:=by omega
    have T:(a.tdiv b).natAbs<=a.natAbs/2:=by rw[Int.natAbs_tdiv];exact Nat.div_le_div_left J (by omega)
    omega
 .omega
def aiu{a b:Int}(D: -9223372036854775808<=a/\a<=9223372036854775807): -9223372036854775808<=a.tmod b/\a.tmod b<=9223372036854775807:=by
 have M:(a.tmod b).natAbs<=a.natAbs:=by rw[Int.natAbs_tmod];exact Nat.mod_le _ _
 have J:0<=a->0<=a.tmod b:=λh=>Int.tmod_nonneg _ h;have T:a<=0->a.tmod b<=0:=λh=>by
  have:=Int.tmod_nonneg (a:= -a) b (by omega);rw[Int.neg_tmod]at this;omega
 omega
def aeV{a b:Int}(D: -9223372036854775808<=a/\a<=9223372036854775807):S7 (oO (AX a b)) false:=by
 intro h;by_cases H:b=0
 .simp[oO,AX,H]at h
 .by_cases hm:a= -9223372036854775808/\b= -1
  .simp[oO,AX,hm]at h
  .have:=ait D hm;simp[oO,AX,H,hm,this]
def aeW{a b:Int}(D: -9223372036854775808<=a/\a<=9223372036854775807):S7 (oO (CX a b)) false:=by
 intro h;by_cases H:b=0
 .simp[oO,CX,H]at h
 .have:=aiu (b:=b) D;simp[oO,CX,H,this]
def aiv(op:Int):Prop:=op=6\/(8<=op/\op<=12)\/(15<=op/\op<=18)
instance (op:Int):Decidable (aiv op):=inferInstanceAs (Decidable (_\/_))
def YK{op:Int}{l:List (Int×Bool)}{r:Int×Bool×Int}(h:E6 op l=some r)(I:∀p∈l, -9223372036854775808<=p.1/\p.1<=9223372036854775807):
 S7 r (!decide (op=6\/(8<=op/\op<=12))):=by
 unfold E6 at h;split at h
 .rename_i a;cases h;have D:=I a (by simp);unfold jl;split
  .split
   .exact BP _
   .split
    .rename_i U;subst U;exact n9 _
    .exact BP _
  .split
   .rename_i V;subst V;exact F5 _
   .exact BP _
 .rename_i a b;have D:=I a (by simp);have H:=I b (by simp);split at h
  .cases h;unfold gR;split
   .split
    .exact BP _
    .unfold wX;split
     .rename_i e;subst e;exact n9 _
     .split
      .rename_i e;have:(!decide (op=6\/(8<=op/\op<=12)))=true:=by simp;omega
       rw[this];exact n9 _
      .split
       .rename_i e;subst e;exact n9 _
       .split
        .rename_i e;subst e;exact n9 _
        .exact BP _
   .unfold xo;split
    .rename_i e;subst e;exact F5 _
    .split
     .rename_i e;subst e;exact F5 _
     .split
      .rename_i e;subst e;exact F5 _
      .split
       .rename_i e;subst e;exact aeV D
       .split
        .rename_i e;subst e;exact aeW D
        .split
         .rename_i e;subst e;exact n9 _
         .split
          .rename_i e;subst e;exact n9 _
          .split
           .rename_i e;subst e;exact n9 _
           .split
            .rename_i e;subst e;exact n9 _
            .split
             .rename_i e;subst e;exact n9 _
             .split
              .rename_i e;subst e;exact n9 _
              .exact BP _
  .cases h
 .cases h
def Kp(vs:List Vr)(x y:Ex):Prop:=bm y=true/\dt y=true/\aE vs y=aE vs x/\lQ y=lQ x
def YL{vs:List Vr}{y:Ex}{p:Int×Bool}(h:kQ y=some p)(J:bm y=true)(I:dt y=true)(he:(aE vs y).e=0):
 aE vs y=gA (if p.2=true then 2 else 1)/\(-9223372036854775808<=p.1/\p.1<=9223372036854775807):=by
 obtain⟨op,n,name,field,sub,line⟩:=y;simp only[dt,Ds,ac2]at I;by_cases M:op=1
 .simp only[kQ,kP,wj,M,ad7,adl]at h;subst h;simp[aE,M,I.1]
 .by_cases V:op=2
  .simp only[kQ,kP,wj,M,V,adN,ad7,adl,Int.reduceEq]at h;subst h;simp[aE,V,I.1]
  .by_cases Y:op=6
   .simp only[kQ,kP,wj,nZ,Y,adN,ad7,Int.reduceEq]at h;split at h
    .rename_i z;split at h
     .rename_i A1;cases h;obtain⟨AG,A2,AH,AI,AJ,AK⟩:=z;simp only[kP]at A1;subst A1 Y;simp only[da,dt,amr,Ds,ac2]at I;have A8:0<=A2:=by
       simp[bm,bI,fe]at J;omega
      have O:=BO (n:=A2) ⟨by omega,by omega⟩;refine⟨?_,?_⟩
      .simp[aE,xp,df,gA,jr,jS]
      .simp only[wj,O];omega
     .cases h
    .cases h
   .simp only[kQ,kP,M,V,Y,adN]at h;cases h
def F6:∀{l:List Ex}{ps:List (Int×Bool)},qK l=some ps->ps.length=l.length/\∀(i:Nat) y p,l[i]?=some y->ps[i]?=some p->kQ y=some p
 |[],ps,h=>by simp only[qK]at h;cases h;exact⟨rfl,λi y p h=>by simp at h⟩
 |x::r,ps,h=>by
  simp only[qK]at h;split at h
  .rename_i p Z;split at h
   .rename_i l I;cases h;obtain⟨i1,i2⟩:=F6 I;refine⟨by simp[i1],λi y q D T=>?_⟩;cases i with
    |zero=>simp at D T;subst D T;exact Z
    |succ i=>simp at D T;exact i2 i y q D T
   .cases h
  .cases h
def aeX(vs:List Vr){n:Int}{t:Bool}{line:Int}(h:t=true->n=0\/n=1)(hi: -9223372036854775808<=n/\n<=9223372036854775807)(hm:¬(t=false/\n= -9223372036854775808)):
 bm (nG n t line)=true/\dt (nG n t line)=true/\aE vs (nG n t line)=gA (if t=true then 2 else 1)/\lQ (nG n t line)=line:=by
 unfold nG;cases t with
 |true=>
  have:=h rfl;refine⟨?_,?_,?_,?_⟩
  .simp[bm,bI,fe];omega
  .simp[dt,da];omega
  .simp[aE]
  .simp
 |false=>
  simp only[ahs,adN];split
  .rename_i A9;refine⟨?_,?_,?_,?_⟩
   .simp[bm,bI,fe];omega
   .simp[dt,da];omega
   .simp[aE]
   .simp
  .rename_i A9;have A8:n≠ -9223372036854775808:=λe=>hm ⟨rfl,e⟩;have O:=BO (n:=n) ⟨by omega,by omega⟩;refine⟨?_,?_,?_,?_⟩
   .simp[bm,bI,fe,O];omega
   .simp[dt,da,O];omega
   .simp[aE,xp,df,gA,jr,jS]
   .simp
def aiw{vs:List Vr}{x:Ex}(J:bm x=true)(I:dt x=true)(he:(aE vs x).e=0):Kp vs x (nb x):=by
 have self:Kp vs x x:=⟨J,I,rfl,rfl⟩;unfold nb;split
 .exact self
 .rename_i A3;split
  .exact self
  .rename_i l A4;split
   .exact self
   .rename_i r A5;split
    .exact self
    .rename_i A';simp only[alp,Int.not_lt]at A3 A';obtain⟨op,n,name,field,sub,line⟩:=x;simp only[kP,nZ,PI]at A3 A4 A5⊢;obtain⟨AL,AA⟩:=F6 A4;have A6:=J;simp only[bm,Ds,ac2]at A6;obtain⟨_,H,_,_,AB⟩:=A6;have A7:=I;simp only[dt,Ds]at A7;have AC:∀y∈sub,dt y=true:=by
      have:∀l:List Ex,da l=true->∀y∈l,dt y=true:=by
       intro l;induction l with
       |nil=>intro _ y D;simp at D
       |cons z l ih=>
        intro h y D;simp only[da,Ds]at h;rcases ac4.1 D with rfl|D
        .exact h.1
        .exact ih h.2 y D
      exact this sub A7.2
     have A0:aE vs (.mk op n name field sub line)=xp vs op line sub:=by
      unfold aE;rw[aaf (by omega),aaf (by omega)]
     have AD:∀y∈sub,bm y=true:=(fT sub).1 AB;have AE:∀y∈sub,(aE vs y).e=0:=by
      rw[A0]at he;intro y D;match sub,D,he,H with
      |[a],D,he,_=>
       simp at D;subst D;exact (ky he).1
      |[a,b],D,he,_=>
       simp at D;rcases D with rfl|rfl
       .exact (ky he).1
       .exact (ky he).2.1
      |a::b::c::d,D,he,H=>
       exfalso;simp only[fe]at H;split at H
       .simp at H
       .split at H<;>simp at H
     have AF:∀p∈l, -9223372036854775808<=p.1/\p.1<=9223372036854775807:=by
      intro p Z;obtain⟨i,hi⟩:=apU Z;have AM:=(aap.1 hi).1;have D:∃y,sub[i]?=some y:=⟨sub[i]'(by omega),by simp[show i<sub.length by omega]⟩
      obtain⟨y,D⟩:=D;have hm:=ac6 D;exact (YL (AA i y p D hi) (AD y hm) (AC y hm) (AE y hm)).2
     obtain⟨q1,q2,q3⟩:=YK A5 AF (by simpa using A'.1);have U:=aeX vs (n:=r.1) (t:=r.2.1) (line:=line) (by rw[q1];exact q2) q3 (λh=>A'.2 h);refine⟨U.1,U.2.1,?_,by rw[U.2.2.2];rfl⟩;rw[U.2.2.1,q1,A0];rw[A0]at he;have key:xp vs op line sub=gA (jS op):=by
      match sub,he,H with
      |[a],he,_=>exact (ky he).2.2.2.2
      |[a,b],he,_=>exact (ky he).2.2.2.2
      |[],he,H=>
       exfalso;simp only[fe,ac7]at H;split at H
       .simp at H
       .split at H
        .simp at H
        .omega
      |a::b::c::d,he,H=>
       exfalso;simp only[fe]at H;split at H
       .simp at H
       .split at H<;>simp at H
     rw[key];unfold jS;by_cases h:op=6\/(8<=op/\op<=12)<;>simp[h]
def qL{op n:Int}{name field:Tx}{sub:List Ex}{line:Int}(h:bm (.mk op n name field sub line)=true):sub.length=fe op/\bI sub=true:=by
 simp only[bm,Ds,ac2]at h;exact⟨h.2.1,h.2.2.2.2⟩
def uX{vs:List Vr}{op n:Int}{name field:Tx}{sub:List Ex}{line:Int}(I:bm (.mk op n name field sub line)=true)(he:(aE vs (.mk op n name field sub line)).e=0):∀y∈sub,(aE vs y).e=0:=by
 obtain⟨H,_⟩:=qL I;intro y D;unfold aE at he;by_cases Y:op=1\/op=2
 .have O:sub=[]:=adf (by rw[H];unfold fe;rcases Y with h|h<;>subst h<;>decide);subst O;simp at D
 .rw[aaf Y]at he;by_cases Z:op=3\/op=4\/op=5
  .rw[ac1 Z]at he;by_cases A1:op=4
   .subst A1;obtain⟨z,rfl⟩:∃z,sub=[z]:=by
     match sub,H with
     |[z],_=>exact⟨z,rfl⟩
     |[],h=>simp[fe]at h
     |_::_::_,h=>simp[fe]at h
    simp at D;subst D;split at he
    .simp[du]at he
    .rw[aaf (by decide)]at he;split at he
     .simp[du]at he
     .rw[ac1 rfl]at he;simp only[BN]at he;by_cases J:(aE vs y).e=0
      .exact J
      .rw[ac1 J]at he;exact absurd he J
   .have O:sub=[]:=adf (by rw[H];unfold fe;rw[aaf (by omega),aaf (by omega)]);subst O;simp at D
  .rw[aaf Z]at he;match sub,D,he,H with
   |[a],D,he,_=>
    simp at D;subst D;exact (ky he).1
   |[a,b],D,he,_=>
    simp at D;rcases D with rfl|rfl
    .exact (ky he).1
    .exact (ky he).2.1
   |a::b::c::d,D,he,H=>
    exfalso;simp only[fe]at H;split at H
    .simp at H
    .split at H<;>simp at H
def BQ{op n:Int}{name field:Tx}{sub:List Ex}{line:Int}(h:dt (.mk op n name field sub line)=true):(-9223372036854775808<=n/\n<=9223372036854775807)/\da sub=true:=by
 simp only[dt,Ds,ac2]at h;exact h
def oq:∀l:List Ex,da l=true↔∀x∈l,dt x=true
 |[]=>by simp[da]
 |x::r=>by simp[da,oq r]
section
variable {vs:List Vr}
theorem aeY{op n:Int}{name field:Tx}{sub M:List Ex}{line:Int}(U:M.length=sub.length)(h:∀(i:Nat) x y,sub[i]?=some x->M[i]?=some y->aE vs y=aE vs x/\lQ y=lQ x):
 aE vs (.mk op n name field M line)=aE vs (.mk op n name field sub line):=by
 unfold aE;have A2:∀t,BN vs t M=BN vs t sub:=by
  intro t;match sub,M,U,h with
  |[],[],_,_=>rfl
  |x::r,y::q,_,h=>
   obtain⟨T,V⟩:=h 0 x y rfl rfl;simp only[BN,T,V]
 have A3:xp vs op line M=xp vs op line sub:=by
  match sub,M,U,h with
  |[],[],_,_=>rfl
  |[x],[y],_,h=>
   obtain⟨T,V⟩:=h 0 x y rfl rfl;simp only[xp,T]
  |x::A4::r,y::A5::q,_,h=>
   obtain⟨T,_⟩:=h 0 x y rfl rfl;obtain⟨V,_⟩:=h 1 A4 A5 rfl rfl;simp only[xp,T,V]
 rw[A3];simp only[A2]
theorem F7:∀x:Ex,bm x=true->dt x=true->(aE vs x).e=0->Kp vs x (dF x)
 | .mk op n name field sub line,I,U,he=>by
  obtain⟨f1,f2⟩:=qL I;obtain⟨A6,A7⟩:=BQ U;have O:=uX I he;have ih:∀y∈sub,Kp vs y (dF y):=λy D=>F7 y ((fT sub).1 f2 y D) ((oq sub).1 A7 y D) (O y D);have H:(db sub).length=sub.length:=by rw[lq];simp
  have A8:bm (.mk op n name field (db sub) line)=true:=by
   have A9:bI (db sub)=true:=by
    rw[fT,lq];intro y D;obtain⟨z,J,rfl⟩:=adk.1 D;exact (ih z J).1
   simp only[bm,Ds]at I⊢;refine⟨I.1,?_,I.2.2.1,I.2.2.2.1,A9⟩;rw[H];exact I.2.1
  have AA:dt (.mk op n name field (db sub) line)=true:=by
   simp only[dt,Ds,ac2];refine⟨A6,?_⟩;rw[oq,lq];intro y D;obtain⟨z,J,rfl⟩:=adk.1 D;exact (ih z J).2.1
  have A':aE vs (.mk op n name field (db sub) line)=aE vs (.mk op n name field sub line):=by
   refine aeY H λi x y A0 D=>?_;rw[lq,adn,A0]at D;cases D;have:=ih x (ac6 A0);exact this.2.2
  have:=aiw (vs:=vs) A8 AA (by rw[A'];exact he);obtain⟨AB,AC,AD,AE⟩:=this;exact⟨AB,AC,AD.trans A',AE⟩
termination_by x=>SizeOf.sizeOf x
decreasing_by all_goals (simp_wf;have:=apM D;omega)
end
def bM{a b:EL}:(gS a b).1=0↔a.1=0/\b.1=0:=by
 unfold gS;by_cases h:a.1=0
 .rw[aaf (λO=>O h)];simp[h]
 .rw[ac1 h];simp[h]
def sJ{vs:List Vr}{x:Ex}{t:Int}:(ew vs x t).1=0↔(aE vs x).e=0/\(aE vs x).t=t:=by
 unfold ew;by_cases h:(aE vs x).e=0
 .rw[aaf (λO=>O h)];by_cases H:(aE vs x).t=t
  .rw[aaf (λO=>O H)];simp[h,H]
  .rw[ac1 H];simp[H]
 .rw[ac1 h];simp[h]
def S9{x:Ex}(h:ff x=true):dF x=x:=by
 obtain⟨op,n,name,field,sub,line⟩:=x;simp only[ff,kP,wj,BM,PH,nZ,Ds]at h;obtain⟨I,H,M⟩:=h;have I:op=0:=adI I;have M:=adI M;have Z:sub=[]:=adf (by omega);subst I Z;simp[dF,db,nb]
def aix{op n:Int}{name field:Tx}{sub:List Ex}{line:Int}(h:op<6):dF (.mk op n name field sub line)=.mk op n name field (db sub) line:=by
 show nb _=_;unfold nb;rw[ac1 (.inl (by simpa using h))]
section
variable {vs:List Vr}
theorem yd{x:Ex}{t:Int}(J:bm x=true)(D:dt x=true)(h:(ew vs x t).1=0):bm (dF x)=true/\dt (dF x)=true/\(ew vs (dF x) t).1=0:=by
 obtain⟨I,H⟩:=sJ.1 h;obtain⟨A1,A2,A3,_⟩:=F7 x J D I;exact⟨A1,A2,sJ.2 (by rw[A3];exact⟨I,H⟩)⟩
theorem PW{t:Int}:∀l:List Ex,bI l=true->da l=true->(n7 vs t l).1=0->bI (db l)=true/\da (db l)=true/\(n7 vs t (db l)).1=0
 |[],_,_,_=>⟨rfl,rfl,rfl⟩
 |x::r,J,D,h=>by
  simp only[bI,da,Ds]at J D;obtain⟨I,H⟩:=bM.1 h;obtain⟨T,a2,a3⟩:=yd J.1 D.1 I;obtain⟨U,V,Y⟩:=PW r J.2 D.2 H;simp only[db,bI,da,Ds];exact⟨⟨T,U⟩,⟨a2,V⟩,bM.2 ⟨a3,Y⟩⟩
theorem Ta{k line:Int}:∀(fs:List Tx)(xs:List Ex)(p:List Tx),xs.length=fs.length->bI xs=true->da xs=true->(iU vs k line fs xs p).1=0->bI (db xs)=true/\da (db xs)=true/\(iU vs k line fs (db xs) p).1=0
 |[],[],p,_,_,_,_=>⟨rfl,rfl,rfl⟩
 |f::fs,x::xs,p,A4,J,D,h=>by
  simp only[bI,da,Ds]at J D;unfold iU at h;simp only[db,bI,da,Ds];unfold iU;cases y:mn k f with
  |none=>rw[y]at h;simp at h
  |some q=>
   rw[y]at h;simp only at h⊢;split at h
   .simp at h
   .rename_i I;split at h
    .simp at h
    .rename_i H;obtain⟨M,A5⟩:=bM.1 h;obtain⟨T,a2,a3⟩:=yd J.1 D.1 M;obtain⟨U,V,Y⟩:=Ta fs xs (p++[f]) (by simpa using A4) J.2 D.2 A5;rw[aaf I,aaf H];exact⟨⟨T,U⟩,⟨a2,V⟩,bM.2 ⟨a3,Y⟩⟩
 |[],_::_,_,D,_,_,_=>by simp at D
 |_::_,[],_,D,_,_,_=>by simp at D
theorem PX:∀l:List (List Sm),(jt l).length=l.length
 |[]=>rfl
 |b::r=>by simp[jt,PX r]
theorem abx(l:List Ex):(db l).length=l.length:=by rw[lq];simp
theorem aby{x:Ex}(h:bm x=true):ff x=false:=by
 obtain⟨op,n,name,field,sub,line⟩:=x;simp only[bm,Ds,ahI,aed]at h;have:op≠0:=by
  intro e;apply h.1;omega
 simp[ff,this]
theorem anr{to val:Ex}{line:Int}(M:bQ to=3\/bQ to=4)(f1:bm to=true)(f2:bm val=true)(A6:dt to=true)(A7:dt val=true)(h:(JA vs to val line).1=0):
 (bm (dF to)=true/\bm (dF val)=true)/\(dt (dF to)=true/\dt (dF val)=true)/\(JA vs (dF to) (dF val) line).1=0/\bQ (dF to)=bQ to:=by
 have A':dF to=.mk (bQ to) (iS to) (eh to) (ic to) (db (di to)) (lQ to):=by
  obtain⟨op,n,name,field,sub,l⟩:=to;simp only[kP]at M;exact aix (by omega)
 have A8:eh (dF to)=eh to:=by rw[A'];rfl
 have A9:bQ (dF to)=bQ to:=by rw[A'];rfl
 unfold JA at h⊢;rw[A8];cases A0:bj vs (eh to)with
 |none=>rw[A0]at h;simp at h
 |some v=>
  rw[A0]at h;simp only at h⊢;split at h
  .simp at h
  .rename_i Z;rw[aaf Z];obtain⟨q1,q2⟩:=bM.1 h;obtain⟨q2,q3⟩:=bM.1 q2;obtain⟨T,a2,a3,_⟩:=F7 to f1 A6 q1;obtain⟨U,V,Y,_⟩:=F7 val f2 A7 q2;refine⟨⟨T,U⟩,⟨a2,V⟩,?_,A9⟩;rw[a3,Y];exact h
end
section
variable {vs:List Vr}
mutual
theorem aiy(J:Bool):∀s:Sm,j9 s=true->ka s=true->(lA vs J s).1=0->j9 (ur s)=true/\ka (ur s)=true/\(lA vs J (ur s)).1=0
 | .mk op name to val conds V fields blocks line,M,I,h=>by
  simp only[j9,Ds,ac2]at M;obtain⟨AL,AM,A2,A4,AD,A',AN,AO,A6⟩:=M;simp only[ka,Ds]at I;obtain⟨AK,A7,AE,AP,A8⟩:=I
  --Ad Ae to be shown,from Af parts
  have fin:(if op=1 then decide (bQ (dF to)=3\/bQ (dF to)=4)&&bm (dF to)else ff (dF to))=true->
   (if op=1\/op=3\/op=5\/op=6 then !ff (dF val)&&bm (dF val)else ff (dF val))=true->bI (db conds)=true->cu (jt blocks)=true->
   dt (dF to)=true->dt (dF val)=true->da (db conds)=true->fJ (jt blocks)=true->
   (lA vs J (.mk op name (dF to) (dF val) (db conds) V fields (jt blocks) line)).1=0->
   j9 (ur (.mk op name to val conds V fields blocks line))=true/\ka (ur (.mk op name to val conds V fields blocks line))=true/\(lA vs J (ur (.mk op name to val conds V fields blocks line))).1=0:=by
   intro A0 a2 a3 a4 a5 AQ AR AS a9;simp only[ur,j9,ka,Ds,ac2,abx,PX];exact⟨⟨AL,AM,A0,a2,a3,A',AN,AO,a4⟩,⟨a5,AQ,AR,AP,AS⟩,a9⟩
  have AT:¬op=1->(if op=1 then decide (bQ (dF to)=3\/bQ (dF to)=4)&&bm (dF to)else ff (dF to))=true/\dt (dF to)=true:=by
   intro H;rw[aaf H]at A2⊢;rw[S9 A2];exact⟨A2,AK⟩
  have AF:¬(op=1\/op=3\/op=5\/op=6)->(if op=1\/op=3\/op=5\/op=6 then !ff (dF val)&&bm (dF val)else ff (dF val))=true/\dt (dF val)=true:=by
   intro H;rw[aaf H]at A4⊢;rw[S9 A4];exact⟨A4,A7⟩
  have vv:(op=1\/op=3\/op=5\/op=6)->bm (dF val)=true->(if op=1\/op=3\/op=5\/op=6 then !ff (dF val)&&bm (dF val)else ff (dF val))=true:=by
   intro H O;rw[ac1 H,aby O,O];rfl
  have AB:(op=1\/op=3\/op=5\/op=6)->bm val=true:=by
   intro H;rw[ac1 H]at A4;simp only[Ds]at A4;exact A4.2
  unfold lA at h;by_cases H:op=1
  .subst H;rw[ac1 rfl]at h;have D:dj 1 conds.length V.length fields.length blocks.length=true:=A';simp[dj]at D;obtain⟨rfl,_,_,rfl⟩:=D;rw[ac1 rfl]at A2;simp only[Ds,ac2]at A2;obtain⟨⟨AU,AV⟩,⟨AW,AX⟩,AY,AZ⟩:=anr A2.1 A2.2 (AB (.inl rfl)) AK A7 h;refine fin (by rw[ac1 rfl,AZ,AU];simp[A2.1]) (vv (.inl rfl) AV) rfl rfl AW AX rfl rfl ?_;unfold lA;rw[ac1 rfl];exact AY
  .rw[aaf H]at h;obtain⟨t1,t2⟩:=AT H;by_cases O:op=2
   .subst O;rw[ac1 rfl]at h;have D:dj 2 conds.length V.length fields.length blocks.length=true:=A';simp[dj]at D;obtain⟨v1,v2⟩:=AF (by decide);obtain⟨Y,Z,T,U,AG⟩:=JD J conds blocks AD AE A6 A8 (by omega) h;refine fin t1 v1 Y T t2 v2 Z U ?_;unfold lA;rw[aaf H,ac1 rfl];exact AG
   .rw[aaf O]at h;by_cases A1:op=3
    .subst A1;rw[ac1 rfl]at h;have D:dj 3 conds.length V.length fields.length blocks.length=true:=A';simp[dj]at D;obtain⟨rfl,_⟩:=D;obtain⟨q1,q2⟩:=bM.1 h;obtain⟨v1,v2,v3⟩:=yd (AB (.inr (.inl rfl))) A7 q1;obtain⟨Y,Z,T,U,AG⟩:=JD J [] blocks rfl rfl A6 A8 (by simp) q2;refine fin t1 (vv (.inr (.inl rfl)) v1) rfl T t2 v2 rfl U ?_;unfold lA;rw[aaf H,aaf O,ac1 rfl];exact bM.2 ⟨v3,AG⟩
    .rw[aaf A1]at h;by_cases A5:op=4
     .subst A5;rw[ac1 rfl]at h;have D:dj 4 conds.length V.length fields.length blocks.length=true:=A';simp[dj]at D;obtain⟨_,_,_,A9⟩:=D;obtain⟨v1,v2⟩:=AF (by decide);cases A3:bj vs name with
      |none=>rw[A3]at h;simp at h
      |some v=>
       rw[A3]at h;simp only at h;split at h
       .simp at h
       .rename_i g1;split at h
        .simp at h
        .rename_i g2;obtain⟨q1,q2⟩:=bM.1 h;obtain⟨Y,Z,AH⟩:=PW conds AD AE q1;obtain⟨T,U,y⟩:=PY blocks A6 A8 A9 q2;refine fin t1 v1 Y T t2 v2 Z U ?_;unfold lA;rw[aaf H,aaf O,aaf A1,ac1 rfl,A3];simp only
         rw[aaf g1,aaf g2];exact bM.2 ⟨AH,y⟩
     .rw[aaf A5]at h;by_cases AA:op=5
      .subst AA;rw[ac1 rfl]at h;have D:dj 5 conds.length V.length fields.length blocks.length=true:=A';simp[dj]at D;obtain⟨rfl,_,_,A9⟩:=D;obtain⟨q1,q2⟩:=bM.1 h;obtain⟨v1,v2,v3⟩:=yd (AB (.inr (.inr (.inl rfl)))) A7 q1;obtain⟨T,U,y⟩:=PY blocks A6 A8 A9 q2;refine fin t1 (vv (.inr (.inr (.inl rfl))) v1) rfl T t2 v2 rfl U ?_;unfold lA;rw[aaf H,aaf O,aaf A1,aaf A5,ac1 rfl];exact bM.2 ⟨v3,y⟩
      .rw[aaf AA]at h;by_cases AC:op=6
       .subst AC;rw[ac1 rfl]at h;have D:dj 6 conds.length V.length fields.length blocks.length=true:=A';simp[dj]at D;obtain⟨rfl,_,_,A9⟩:=D;obtain⟨q1,q2⟩:=bM.1 h;obtain⟨v1,v2,v3⟩:=yd (AB (.inr (.inr (.inr rfl)))) A7 q2;obtain⟨T,U,y⟩:=PY blocks A6 A8 A9 q1;refine fin t1 (vv (.inr (.inr (.inr rfl))) v1) rfl T t2 v2 rfl U ?_;unfold lA;rw[aaf H,aaf O,aaf A1,aaf A5,aaf AA,ac1 rfl];exact bM.2 ⟨y,v3⟩
       .rw[aaf AC]at h;obtain⟨v1,v2⟩:=AF (by omega);by_cases AI:op=7
        .subst AI;rw[ac1 rfl]at h;have D:dj 7 conds.length V.length fields.length blocks.length=true:=A';simp[dj]at D;obtain⟨rfl,_,_,rfl⟩:=D;refine fin t1 v1 rfl rfl t2 v2 rfl rfl ?_;unfold lA;rw[aaf H,aaf O,aaf A1,aaf A5,aaf AA,aaf AC,ac1 rfl];exact h
        .rw[aaf AI]at h;by_cases A_:op=9
         .subst A_;rw[ac1 rfl]at h;have D:dj 9 conds.length V.length fields.length blocks.length=true:=A';simp[dj]at D;obtain⟨Aa,_,rfl⟩:=D;cases A3:bj vs name with
          |none=>rw[A3]at h;simp at h
          |some v=>
           rw[A3]at h;simp only at h;split at h
           .simp at h
           .rename_i g1;obtain⟨Y,Z,AH⟩:=Ta fields conds [] Aa AD AE h;refine fin t1 v1 Y rfl t2 v2 Z rfl ?_;unfold lA;rw[aaf H,aaf O,aaf A1,aaf A5,aaf AA,aaf AC,aaf AI,ac1 rfl,A3];simp only
            rw[aaf g1];exact AH
         .have Ab:op=8:=by omega
          subst Ab;have D:dj 8 conds.length V.length fields.length blocks.length=true:=A';simp[dj]at D;obtain⟨rfl,_,_,rfl⟩:=D;refine fin t1 v1 rfl rfl t2 v2 rfl rfl ?_;unfold lA;simp
theorem sK(J:Bool):∀l:List Sm,eA l=true->gN l=true->(fa vs J l).1=0->eA (dW l)=true/\gN (dW l)=true/\(fa vs J (dW l)).1=0
 |[],_,_,_=>⟨rfl,rfl,rfl⟩
 |x::r,M,I,h=>by
  simp only[eA,gN,Ds]at M I;obtain⟨H,O⟩:=bM.1 h;obtain⟨A0,a2,a3⟩:=aiy J x M.1 I.1 H;obtain⟨T,U,y⟩:=sK J r M.2 I.2 O;simp only[dW,eA,gN,Ds];exact⟨⟨A0,T⟩,⟨a2,U⟩,bM.2 ⟨a3,y⟩⟩
theorem JD(J:Bool):∀(cs:List Ex)(l:List (List Sm)),bI cs=true->da cs=true->cu l=true->fJ l=true->cs.length<=l.length->(fj vs J cs l).1=0->
 bI (db cs)=true/\da (db cs)=true/\cu (jt l)=true/\fJ (jt l)=true/\(fj vs J (db cs) (jt l)).1=0
 |[],[],_,_,_,_,_,_=>⟨rfl,rfl,rfl,rfl,rfl⟩
 |[],b::r,Y,Z,M,I,_,h=>by
  simp only[cu,fJ,Ds]at M I;obtain⟨H,O⟩:=bM.1 h;obtain⟨A0,a2,a3⟩:=sK J b M.1 I.1 H;obtain⟨_,_,T,U,y⟩:=JD J [] r rfl rfl M.2 I.2 (by simp) O;simp only[db,jt,bI,da,cu,fJ,Ds];exact⟨trivial,trivial,⟨A0,T⟩,⟨a2,U⟩,bM.2 ⟨a3,y⟩⟩
 |c::cs,b::r,Y,Z,M,I,AJ,h=>by
  simp only[cu,fJ,Ds]at M I;simp only[bI,da,Ds]at Y Z;obtain⟨Ac,A1⟩:=bM.1 h;obtain⟨H,O⟩:=bM.1 A1;obtain⟨q1,q2,q3⟩:=yd Y.1 Z.1 Ac;obtain⟨A0,a2,a3⟩:=sK J b M.1 I.1 H;obtain⟨d1,d2,T,U,y⟩:=JD J cs r Y.2 Z.2 M.2 I.2 (by simpa using AJ) O;simp only[db,jt,bI,da,cu,fJ,Ds];exact⟨⟨q1,d1⟩,⟨q2,d2⟩,⟨A0,T⟩,⟨a2,U⟩,bM.2 ⟨q3,bM.2 ⟨a3,y⟩⟩⟩
 |_::_,[],_,_,_,_,AJ,_=>by simp at AJ
theorem PY:∀(l:List (List Sm)),cu l=true->fJ l=true->l.length=1->(uq vs l).1=0->cu (jt l)=true/\fJ (jt l)=true/\(uq vs (jt l)).1=0
 |[b],M,I,_,h=>by
  simp only[cu,fJ,amr]at M I;obtain⟨A0,a2,a3⟩:=sK true b M I h;simp only[jt,cu,fJ,amr];exact⟨A0,a2,a3⟩
 |[],_,_,I,_=>by simp at I
 |_::_::_,_,_,I,_=>by simp at I
end
end
inductive MC(vs:List Vr)(lp:Bool):Sm->Prop
 |Tc {to val:Ex} {line:Int} {v:Vr} (D:bQ to=3\/bQ to=4) (U:bj vs (eh to)=some v) (Y:¬v.sec=1) (ft:bm to=true) (AH:(aE vs to).e=0) (A4:bm val=true) (AI:(aE vs val).e=0) (h:(aE vs val).t=(aE vs to).t):MC vs lp (.mk 1 [] to val [] [] [] [] line)
 |Td {to val:Ex} {conds:List Ex} {blocks:List (List Sm)} {line:Int} (D:ff to=true) (H:ff val=true) (A7:bI conds=true) (T:1<=conds.length) (J:conds.length<=blocks.length) (I:blocks.length<=conds.length+1) (A2:cu blocks=true) (h:(fj vs lp conds blocks).1=0):MC vs lp (.mk 2 [] to val conds [] [] blocks line)
 |Tf {to val:Ex} {A1:List (List Int)} {blocks:List (List Sm)} {line:Int} (D:ff to=true) (A4:bm val=true) (A6:(ew vs val 1).1=0) (J:A1.length<=blocks.length) (I:blocks.length<=A1.length+1) (AJ:A1.all uV=true) (A2:cu blocks=true) (h:(fj vs lp [] blocks).1=0):MC vs lp (.mk 3 [] to val [] A1 [] blocks line)
 |Tg {name:Tx} {to val x y z:Ex} {b:List Sm} {line:Int} {v:Vr} (A8:dV name=true) (D:ff to=true) (H:ff val=true) (U:bj vs name=some v) (Y:¬v.sec=1) (A':v.arr=false) (A3:v.ty=1) (AK:bm x=true) (AL:(ew vs x 1).1=0) (AM:bm y=true) (AN:(ew vs y 1).1=0) (AO:bm z=true) (AP:(ew vs z 1).1=0) (A2:eA b=true) (h:(fa vs true b).1=0):MC vs lp (.mk 4 name to val [x,y,z] [] [] [b] line)
 |Th {to val:Ex} {b:List Sm} {line:Int} (D:ff to=true) (A4:bm val=true) (A6:(ew vs val 2).1=0) (A2:eA b=true) (h:(fa vs true b).1=0):MC vs lp (.mk 5 [] to val [] [] [] [b] line)
 |rep {to val:Ex} {b:List Sm} {line:Int} (D:ff to=true) (A4:bm val=true) (A6:(ew vs val 2).1=0) (A2:eA b=true) (h:(fa vs true b).1=0):MC vs lp (.mk 6 [] to val [] [] [] [b] line)
 |ext {to val:Ex} {line:Int} (D:ff to=true) (H:ff val=true) (h:lp=true):MC vs lp (.mk 7 [] to val [] [] [] [] line)
 |ret {to val:Ex} {line:Int} (D:ff to=true) (H:ff val=true):MC vs lp (.mk 8 [] to val [] [] [] [] line)
 |Ti {name:Tx} {to val:Ex} {conds:List Ex} {fields:List Tx} {line:Int} {v:Vr} (A8:dV name=true) (D:ff to=true) (H:ff val=true) (U:bj vs name=some v) (A3:2<v.ty) (A7:bI conds=true) (AQ:conds.length=fields.length) (A5:fields.all dV=true) (h:(iU vs v.ty line fields conds []).1=0):MC vs lp (.mk 9 name to val conds [] fields [] line)
def yZ{α:Type}{l:List α}(h:l.length=0):l=[]:=adf h
def KY{α:Type}{l:List α}(h:l.length=1):∃a,l=[a]:=by
 match l,h with
 |[a],_=>exact⟨a,rfl⟩
def are{α:Type}{l:List α}(h:l.length=3):∃a b c,l=[a,b,c]:=by
 match l,h with
 |[a,b,c],_=>exact⟨a,b,c,rfl⟩
def VY{vs:List Vr}{b:List Sm}(h:(uq vs [b]).1=0):(fa vs true b).1=0:=by simpa [uq]using h
def BU{vs:List Vr}{lp:Bool}{x:Sm}(A5:j9 x=true)(h:(lA vs lp x).1=0):MC vs lp x:=by
 obtain⟨op,name,to,val,conds,A1,fields,blocks,line⟩:=x;simp only[j9,Ds]at A5;obtain⟨A9,M,D,H,A0,O,AA,AB,Z⟩:=A5;simp only[ac2]at A9;unfold lA at h;have AC:op=1\/op=2\/op=3\/op=4\/op=5\/op=6\/op=7\/op=8\/op=9:=by omega
 rcases AC with rfl|rfl|rfl|rfl|rfl|rfl|rfl|rfl|rfl
 .simp[dj]at M D H O h;obtain⟨rfl,rfl,rfl,rfl⟩:=O;subst M;unfold JA at h;cases U:bj vs (eh to)with
  |none=>rw[U]at h;simp at h
  |some v=>
   rw[U]at h;simp only at h;by_cases Y:v.sec=1
   .simp[Y]at h
   .rw[aaf Y]at h;obtain⟨T,J⟩:=bM.1 h;obtain⟨J,I⟩:=bM.1 J;refine .Tc D.1 U Y D.2 T H.2 J ?_;apply aiL;intro hh;rw[ac1 hh]at I;simp at I
 .simp[dj]at M D H O h;obtain⟨T,J,I,V,AD⟩:=O;subst M J I;exact .Td D H A0 (by omega) (by omega) (by omega) Z h
 .simp[dj]at M D H O h;obtain⟨T,I,V,AD⟩:=O;subst M T I;obtain⟨g1,g2⟩:=bM.1 h;exact .Tf D H.2 g1 (by omega) (by omega) AB Z g2
 .simp[dj]at M D H O h;obtain⟨T,J,I,V⟩:=O;obtain⟨x,y,z,rfl⟩:=are T;obtain⟨b,rfl⟩:=KY V;subst J I;cases U:bj vs name with
  |none=>rw[U]at h;simp at h
  |some v=>
   rw[U]at h;simp only at h;by_cases Y:v.sec=1
   .simp[Y]at h
   .rw[aaf Y]at h;by_cases A':v.arr=true\/¬v.ty=1
    .rw[ac1 A']at h;simp at h
    .rw[aaf A']at h;simp only[alp,Bool.not_eq_true,alY]at A';obtain⟨g1,g2⟩:=bM.1 h;simp only[n7]at g1;obtain⟨AE,g1⟩:=bM.1 g1;obtain⟨AF,g1⟩:=bM.1 g1;obtain⟨AG,g1⟩:=bM.1 g1;simp only[bI,Ds]at A0;simp only[cu,Ds]at Z;exact .Tg M D H U Y A'.1 A'.2 A0.1 AE A0.2.1 AF A0.2.2.1 AG Z.1 (VY g2)
 .simp[dj]at M D H O h;obtain⟨T,J,I,V⟩:=O;obtain⟨b,rfl⟩:=KY V;subst M T J I;obtain⟨g1,g2⟩:=bM.1 h;simp only[cu,Ds]at Z;exact .Th D H.2 g1 Z.1 (VY g2)
 .simp[dj]at M D H O h;obtain⟨T,J,I,V⟩:=O;obtain⟨b,rfl⟩:=KY V;subst M T J I;obtain⟨g1,g2⟩:=bM.1 h;simp only[cu,Ds]at Z;exact .rep D H.2 g2 Z.1 (VY g1)
 .simp[dj]at M D H O h;obtain⟨T,J,I,V⟩:=O;subst M T J I V;refine .ext D H ?_;cases lp with
  |true=>rfl
  |false=>simp at h
 .simp[dj]at M D H O h;obtain⟨T,J,I,V⟩:=O;subst M T J I V;exact .ret D H
 .simp[dj]at M D H O h;obtain⟨T,J,I⟩:=O;subst J I;cases U:bj vs name with
  |none=>rw[U]at h;simp at h
  |some v=>
   rw[U]at h;simp only at h;by_cases A3:v.ty<=2
   .rw[ac1 A3]at h;simp at h
   .rw[aaf A3]at h;exact .Ti M D H U (by omega) A0 T (adp.2 (by simpa using AA)) h
def MD{H:Int->Nat}{cells last:Int}:∀{ins:List ar}{i0:Nat},qe H cells last i0 ins=true↔∀i x,ins[i]?=some x->dH H cells last ((i0+i:Nat):Int) x=true
 |[],i0=>by simp[qe]
 |y::r,i0=>by
  constructor
  .intro h i x D;exact sH h i x D
  .intro h;simp only[qe,Ds];refine⟨by simpa using h 0 y rfl,MD.2 (λi x D=>?_)⟩;have:=h (i+1) x (by simpa using D);rw[show i0+1+i=i0+(i+1) by omega];exact this
def wq(i:Nat)(x:ar):Bool:=decide (x.op=9\/x.op=10)&&decide (x.a.toNat=i)
def KZ(i:Nat):∀(l:List ar)(T:List Bool),i<T.length->
 (l.foldl (λl x=>if x.op=9\/x.op=10 then l.set x.a.toNat true else l) T).getD i false=(T.getD i false||l.any (wq i))
 |[],T,h=>by simp
 |x::r,T,h=>by
  simp only[List.foldl_cons,List.any_cons];by_cases e:x.op=9\/x.op=10
  .rw[ac1 e,KZ i r _ (by simpa using h)];have:(T.set x.a.toNat true).getD i false=(T.getD i false||wq i x):=by
    simp only[ahu,ai9,wq,e,decide_true,aid];by_cases I:x.a.toNat=i
    .subst I;simp[h]
    .simp[I]
   rw[this,Bool.or_assoc]
  .rw[aaf e,KZ i r _ h];simp[wq,e]
def ME{ins:List ar}{i:Nat}(h:i<ins.length):(pP ins).getD i false=ins.any (wq i):=by
 unfold pP;rw[KZ i ins _ (by simpa using h)];simp[ahu,h]
def Bd(succ:Nat->List Nat):Nat->Nat->Prop
 |0,i=>succ i=[]
 |h+1,i=>∀j∈succ i,Bd succ h j
def Bd.succ{succ:Nat->List Nat}:∀{h i:Nat},Bd succ h i->Bd succ (h+1) i
 |0,i,U=>λj D=>by rw[show succ i=[]from U]at D;simp at D
 |h+1,i,U=>λj D=>(U j D).succ
def Bd.le{succ:Nat->List Nat}{h AC i:Nat}(U:Bd succ h i)(A':h<=AC):Bd succ AC i:=by
 induction A' with
 |refl=>exact U
 |step _ ih=>exact ih.succ
def Tj{succ:Nat->List Nat}:∀(l:List Nat),(∀j∈l,∃h,Bd succ h j)->∃h,∀j∈l,Bd succ h j
 |[],_=>⟨0,λj h=>by simp at h⟩
 |x::r,h=>by
  obtain⟨J,AI⟩:=h x (by simp);obtain⟨M,AJ⟩:=Tj r (λj D=>h j (by simp[D]));refine⟨max J M,λj D=>?_⟩;rcases ac4.1 D with rfl|D
  .exact AI.le (by omega)
  .exact (AJ j D).le (by omega)
def Tk{succ:Nat->List Nat}{i:Nat}(h:Ends succ i):∃h,Bd succ h i:=by
 induction h with
 |mk i _ ih=>
  obtain⟨h,U⟩:=Tj (succ i) ih;exact⟨h+1,U⟩
def least{P:Nat->Prop}(h:∃n,P n):∃n,P n/\∀m,m<n->¬P m:=by
 obtain⟨n,V⟩:=h;induction n using Nat.strongRecOn with
 |ind n ih=>
  by_cases hm:∃m,m<n/\P m
  .obtain⟨m,J,M⟩:=hm;exact ih m J M
  .exact⟨n,V,λm J M=>hm ⟨m,J,M⟩⟩
def aiz{succ:Nat->List Nat}:∃r:Nat->Nat,∀i,Ends succ i->∀j∈succ i,r j<r i:=by
 classical
 let r:Nat->Nat:=λi=>if h:∃n,Bd succ n i then Classical.choose (least h)else 0
 refine⟨r,λi hi j D=>?_⟩;have A3:=Tk hi;have A4:∃n,Bd succ n j:=Tk (by cases hi with|mk _ h=>exact h j D);have AK:r i=Classical.choose (least A3):=dif_pos A3;have AL:r j=Classical.choose (least A4):=dif_pos A4;obtain⟨Y,a2⟩:=apN (least A3);obtain⟨AM,AD⟩:=apN (least A4);rw[<-AK]at Y a2;rw[<-AL]at AM AD;cases AE:r i with
 |zero=>
  rw[AE]at Y;rw[show succ i=[]from Y]at D;simp at D
 |succ n=>
  rw[AE]at Y;have A0:Bd succ n j:=Y j D;exact aiL λV=>AD n (by omega) A0
def PZ{succ:Nat->List Nat}{N:Nat}{r:Nat->Nat}(h:∀i<N,∀j∈succ i,j<N/\r j<r i):∀i<N,Ends succ i:=by
 have key:∀(m i:Nat),r i<m->i<N->Ends succ i:=by
  intro m;induction m with
  |zero=>intro i hi;omega
  |succ m ih=>
   intro i hi AF;exact .mk i (λj D=>ih j (by have:=(h i AF j D).2;omega) (h i AF j D).1)
 exact λi hi=>key _ i (Nat.lt_succ_self _) hi
def gI(x:ar):Prop:=x.op=9\/x.op=10
instance (x:ar):Decidable (gI x):=inferInstanceAs (Decidable (_\/_))
structure Good(I:Int->Nat)(cells:Int)(l:List ar)(r:Nat->Nat)(st:Nat->List Bool):Prop where
 len:1<=l.length/\l.length<=4096
 last:∀x,l[l.length-1]?=some x->x.op=15
 form:∀(i:Nat) x,l[i]?=some x->dH I cells ((l.length:Int)-1) i x=true
 st0:st 0=[]
 mv:∀(i:Nat) x,l[i]?=some x->cM x (st i)=some (st (i+1))
 BH:∀(i:Nat) x,l[i]?=some x->gI x->st x.a.toNat=[]
 aiA:∀(i:Nat) x,l[i]?=some x->x.op≠11->∀j∈xR l i,r j<r i
def Good.tgt{I cells l r st}(h:Good I cells l r st){i:Nat}{x:ar}(H:l[i]?=some x)(D:gI x):0<=x.a/\x.a.toNat<l.length:=by
 have:=h.form i x H;unfold dH at this;have J:=h.len.1;rcases D with e|e
 .simp[e]at this;omega
 .simp[e]at this;omega
def Good.Tl{I cells l r st}(h:Good I cells l r st){i:Nat}{x:ar}(H:l[i]?=some x):x.op=15↔i+1=l.length:=by
 constructor
 .intro e;have:=h.form i x H;unfold dH at this;simp[e]at this;have:=h.len.1;omega
 .intro e;exact h.last x (by rw[show l.length-1=i by omega];exact H)
def P0(BH:List Bool):∀(l:List ar)(i:Nat)(S:List Bool),gV BH i l S=true->∃st:Nat->List Bool,st i=S/\∀k x,l[k]?=some x->(BH.getD (i+k) false=true->st (i+k)=[])/\cM x (st (i+k))=some (st (i+k+1))
 |[],i,S,_=>⟨λ_=>S,rfl,λk x h=>by simp at h⟩
 |x::r,i,S,h=>by
  unfold gV at h;split at h
  .cases h
  .rename_i A';cases hm:cM x S with
   |none=>rw[hm]at h;cases h
   |some S'=>
    rw[hm]at h;obtain⟨st,J,M⟩:=P0 BH r (i+1) S' h;refine⟨λk=>if k=i then S else st k,by simp,λk y O=>?_⟩;cases k with
    |zero=>
     simp at O;subst O;simp only[ahq,ad7];refine⟨λT=>?_,by rw[aaf (by omega),J];exact hm⟩;rw[T]at A';simpa using A'
    |succ k=>
     have:=M k y (by simpa using O);simp only[show ¬(i+(k+1)=i) by omega,show ¬(i+(k+1)+1=i) by omega,adN];rw[show i+1+k=i+(k+1) by omega]at this;exact this
def P1(BH:List Bool)(st:Nat->List Bool):∀(l:List ar)(i:Nat),(∀k x,l[k]?=some x->(BH.getD (i+k) false=true->st (i+k)=[])/\cM x (st (i+k))=some (st (i+k+1)))->gV BH i l (st i)=true
 |[],i,_=>rfl
 |x::r,i,h=>by
  have A5:=h 0 x rfl;simp only[ahq]at A5;unfold gV;rw[aaf,A5.2]
  .exact P1 BH st r (i+1) (λk y O=>by
    have:=h (k+1) y (by simpa using O);rw[show i+(k+1)=i+1+k by omega]at this;exact this)
  .intro A6;simp only[Ds,ahI,List.isEmpty_eq_false_iff]at A6;exact A6.2 (A5.1 A6.1)
def Tm{I:Int->Nat}{l:List ar}{vars cells:Int}(h:qf I l vars cells=true):(0<=cells/\cells<=8192/\0<=vars/\vars<=cells)/\∃r st,Good I cells l r st:=by
 simp only[qf,Ds]at h;obtain⟨⟨J,M⟩,A0⟩:=h;have AN:=J;simp only[mO,FY,Ds,ac2]at J;obtain⟨⟨⟨⟨⟨⟨⟨Y,a2⟩,a3⟩,a4⟩,a5⟩,AO⟩,A7⟩,AG⟩:=J;refine⟨⟨a3,a4,a5,AO⟩,?_⟩;obtain⟨r,A8⟩:=aiz (succ:=tI l);obtain⟨st,s0,A1⟩:=P0 _ _ _ _ M;have AP:∀i<l.length,Ends (tI l) i:=by
  intro i hi;exact aiL λV=>by
   have:=(Mp AN).2 ⟨i,hi,V⟩;rw[this]at A0;cases A0
 refine⟨r,st,⟨by omega,by omega⟩,λx H=>?_,λi x H=>?_,s0,λi x H=>?_,λi x H D=>?_,λi x H AQ j D=>?_⟩
 .unfold tJ at A7;rw[aiC,H]at A7;simpa using A7
 .have:=sH AG i x H;simpa using this
 .have:=(A1 i x H).2;simpa using this
 .have Z:=sH AG i x H;have hi:=(aap.1 H).1;have AH:x.a.toNat<l.length:=by
   unfold dH at Z;rcases D with e|e
   .simp[e]at Z;omega
   .simp[e]at Z;omega
  have T:=ME AH;have:l.any (wq x.a.toNat)=true:=by
   rw[List.any_eq_true];refine⟨x,ac6 H,?_⟩;unfold wq;have:(x.op=9\/x.op=10):=D;simp[this]
  rw[this]at T;obtain⟨y,O⟩:∃y,l[x.a.toNat]?=some y:=⟨_,ado AH⟩;have:=(A1 _ y O).1;simp only[agT]at this;exact this T
 .have hi:=(aap.1 H).1;refine A8 i (AP i hi) j ?_;unfold tI;rw[aaf]
  .exact D
  .unfold jQ;rw[H];simpa using AQ
def abz{I cells l r st}(h:Good I cells l r st){i j:Nat}(hi:i<l.length)(D:j∈xR l i):j<l.length:=by
 have H:l[i]?=some l[i]:=by simp[hi]
 unfold xR at D;rw[H]at D;simp only at D;have AR:=h.Tl H;by_cases A9:l[i].op=9
 .have:=h.tgt H (.inl A9);simp[A9]at D;omega
 .by_cases AA:l[i].op=10
  .have:=h.tgt H (.inr AA);simp[AA]at D;omega
  .by_cases AB:l[i].op=15
   .simp[AB]at D
   .simp[A9,AA,AB]at D;have:¬(i+1=l.length):=λh=>AB (AR.2 h);omega
def ant{I:Int->Nat}{l:List ar}{vars cells:Int}{r:Nat->Nat}{st:Nat->List Bool}(AV:0<=cells/\cells<=8192/\0<=vars/\vars<=cells)(h:Good I cells l r st):qf I l vars cells=true:=by
 have Z:mO I l vars cells=true:=by
  simp only[mO,FY,Ds,ac2];have J:=h.len;refine⟨⟨⟨⟨⟨⟨⟨by omega,by omega⟩,by omega⟩,by omega⟩,by omega⟩,by omega⟩,?_⟩,MD.2 (λi x H=>by simpa using h.form i x H)⟩;unfold tJ;rw[aiC,ado (by omega)];have:=h.last l[l.length-1] (by rw[ado (by omega)]);simpa using this
 have A1:gV (pP l) 0 l []=true:=by
  have:=P1 (pP l) st l 0 (λk x H=>by
   refine⟨λT=>?_,by simpa using h.mv k x H⟩;simp only[agT]at T⊢;have AS:=(aap.1 H).1;rw[ME AS,List.any_eq_true]at T;obtain⟨y,O,A2⟩:=T;unfold wq at A2;simp only[Ds,ac2]at A2;obtain⟨i,hi,rfl⟩:=List.getElem_of_mem O;have:=h.BH i l[i] (by simp[hi]) A2.1;rw[A2.2]at this;exact this)
  rw[h.st0]at this;exact this
 have A8:rounds (ig l) (l.length+1) (List.range l.length) (List.replicate l.length 0)=false:=by
  cases AT:rounds (ig l) (l.length+1) (List.range l.length) (List.replicate l.length 0)with
  |false=>rfl
  |true=>
   obtain⟨i,hi,V⟩:=(Mp Z).1 AT;refine absurd (PZ (N:=l.length) (r:=r) (λi hi j D=>?_) i hi) V;unfold tI at D;split at D
   .simp at D
   .rename_i AU;refine⟨abz h hi D,h.aiA i l[i] (by simp[hi]) (λe=>AU ?_) j D⟩;unfold jQ;rw[ado hi];simpa using e
 unfold qf;rw[Z,A1,A8];rfl
def P2{s:Tx}{v:Vr}:∀{l:List Vr}{n:Int},bj l s=some v->(qo l s n).2=v
 |x::r,n,h=>by
  unfold bj at h;unfold qo;split at h
  .rename_i e;cases h;rw[ac1 e]
  .rename_i e;rw[aaf e];exact P2 h
def eI{vs:List Vr}{s:Tx}{v:Vr}(h:bj vs s=some v):(bu vs s).2=v:=P2 h
def MF{s:Tx}{v:Vr}:∀{l:List Vr}{n:Int},(∀v∈l,0<=cB v)->bj l s=some v->n<=(qo l s n).1/\(qo l s n).1+cB v<=n+bW l
 |x::r,n,J,h=>by
  have Y:=J x (by simp);have Z:0<=bW r:=by
   have:∀l:List Vr,(∀v∈l,0<=cB v)->0<=bW l:=by
    intro l;induction l with
    |nil=>intro _;simp[bW]
    |cons y l ih=>intro h;have:=ih (λv I=>h v (by simp[I]));have:=h y (by simp);simp only[bW];omega
   exact this r (λv I=>J v (by simp[I]))
  unfold bj at h;unfold qo;simp only[bW];split at h
  .rename_i e;cases h;rw[ac1 e];simp only;omega
  .rename_i e;rw[aaf e];have:=MF (n:=n+cB x) (λv I=>J v (by simp[I])) h;omega
def wu{vs:List Vr}{s:Tx}{v:Vr}(J:∀v∈vs,0<=cB v)(h:bj vs s=some v):0<=(bu vs s).1/\(bu vs s).1+cB v<=bW vs:=by
 have:=MF (n:=0) J h;simp only[Int.zero_add]at this;exact this
def ae0:∀x∈SZ,∀p∈x.2,p.ty=1\/p.ty=2:=by decide
def MG{k:Int}{p:Pn}:∀{l:List (Int×List Pn)},p∈zZ l k->∃x∈l,p∈x.2
 |(a,q)::r,h=>by
  unfold zZ at h;split at h
  .exact⟨(a,q),by simp,h⟩
  .obtain⟨x,H,D⟩:=MG h;exact⟨x,by simp[H],D⟩
def P3{k:Int}{p:Pn}(h:p∈dQ k):p.ty=1\/p.ty=2:=by
 obtain⟨x,H,D⟩:=MG h;exact ae0 x H p D
def JF{f:Tx}{p:Pn}:∀{l:List Pn}{i:Nat},C0 l f=some p->f≠[]/\p∈l/\∃j,E8 l f i=some (j,p)/\i<=j/\j<i+l.length
 |q::r,i,h=>by
  unfold C0 at h;unfold E8;split at h
  .rename_i e;cases h;exact⟨e.2,by simp,i,by rw[ac1 e.1],by omega,by simp⟩
  .rename_i e;obtain⟨H,D,j,M,A',O⟩:=JF (i:=i+1) h;exact⟨H,by simp[D],j,by rw[aaf (λe'=>e ⟨e',H⟩)];exact M,by omega,by simp;omega⟩
def qM{vs:List Vr}{s f:Tx}{v:Vr}{p:Pn}(I:bj vs s=some v)(T:2<v.ty)(U:mn v.ty f=some p):
 (eH vs s f).2=p/\p∈dQ v.ty/\∃j:Nat,(eH vs s f).1=(bu vs s).1+j/\j<(dQ v.ty).length:=by
 obtain⟨H,D,j,M,_,O⟩:=JF (i:=0) U;have V:=eI I;unfold eH;rw[I,V,ac1 ⟨rfl,T,H⟩,M];exact⟨rfl,D,j,rfl,by omega⟩
def cV:List ar->List Bool->Option (List Bool)
 |[],S=>some S
 |x::r,S=>(cM x S).bind (cV r)
def dX:∀(a b:List ar)(S:List Bool),cV (a++b) S=(cV a S).bind (cV b)
 |[],b,S=>rfl
 |x::a,b,S=>by
  simp only[ahy,cV];cases cM x S with
  |none=>rfl
  |some S'=>exact dX a b S'
def YN{f:ar->ar}(h:∀x,f x=x\/((x.op=9\/x.op=10)/\(f x).op=x.op))(x:ar)(S:List Bool):cM (f x) S=cM x S:=by
 rcases h x with e|⟨H,D⟩
 .rw[e]
 .rcases H with e|e
  .have D:(f x).op=9:=by rw[D,e]
   simp[cM,D,e]
  .have D:(f x).op=10:=by rw[D,e]
   simp[cM,D,e]
def uY{f:ar->ar}(h:∀x,f x=x\/((x.op=9\/x.op=10)/\(f x).op=x.op)):∀(l:List ar)(S:List Bool),cV (l.map f) S=cV l S
 |[],S=>rfl
 |x::r,S=>by
  simp only[adz,cV,YN h];cases cM x S with
  |none=>rfl
  |some S'=>exact uY h r S'
def YO(k:Nat)(x:ar):pc k x=x\/((x.op=9\/x.op=10)/\(pc k x).op=x.op):=by
 unfold pc;split
 .rename_i h;exact .inr ⟨h.1,rfl⟩
 .exact .inl rfl
def P4(k:Int)(x:ar):uu k x=x\/((x.op=9\/x.op=10)/\(uu k x).op=x.op):=by
 unfold uu;split
 .rename_i h;exact .inr ⟨.inl h.1,rfl⟩
 .exact .inl rfl
def P5(k:Int)(x:ar):n8 k x=x\/((x.op=9\/x.op=10)/\(n8 k x).op=x.op):=by
 unfold n8;split
 .rename_i h;exact .inr ⟨.inl h.1,rfl⟩
 .exact .inl rfl
def K0(k:Nat)(l:List ar)(S:List Bool):cV (jj k l) S=cV l S:=uY (YO k) l S
def oa{t:Bool}{S:List Bool}(h:S.length<64):fm t S=some (S++[t]):=by unfold fm;rw[ac1 h]
def Fa(S:List Bool)(f:Bool):jP 1 false (S++[f])=some S:=by
 unfold jP;rw[aaf (by simp)];simp
def JG(S:List Bool):jP 1 true (S++[true])=some S:=by
 unfold jP;rw[aaf (by simp)];simp
def abA(S:List Bool)(f g:Bool):jP 2 false (S++[f]++[g])=some S:=by
 unfold jP;rw[aaf (by simp)];simp
def adO(S:List Bool):jP 2 true (S++[true]++[true])=some S:=by
 unfold jP;rw[aaf (by simp)];simp
inductive XC(vs:List Vr):Ex->Prop
 |num {n:Int} {line:Int} (h:0<=n):XC vs (.mk 1 n [] [] [] line)
 |qX {n:Int} {line:Int} (h:n=0\/n=1):XC vs (.mk 2 n [] [] [] line)
 |var {name:Tx} {line:Int} {v:Vr} (H:bj vs name=some v) (A7:v.arr=false) (O:v.ty<=2):XC vs (.mk 3 0 name [] [] line)
 |idx {name:Tx} {line:Int} {v:Vr} {y:Ex} (H:bj vs name=some v) (A7:v.arr=true) (O:v.ty<=2) (A1:bm y=true) (A2:(aE vs y).e=0) (ty:(aE vs y).t=1):XC vs (.mk 4 0 name [] [y] line)
 |GY {name field:Tx} {line:Int} {v:Vr} {q:Pn} (H:bj vs name=some v) (O:2<v.ty) (Y:mn v.ty field=some q) (Z:dV field=true):XC vs (.mk 5 0 name field [] line)
 |one {op line:Int} {y:Ex} (A8:op=6\/op=7) (A1:bm y=true) (A2:(aE vs y).e=0) (ty:(aE vs y).t=jr op (aE vs y).t):XC vs (.mk op 0 [] [] [y] line)
 |two {op line:Int} {y z:Ex} (A8:8<=op/\op<=21) (A1:bm y=true) (A2:(aE vs y).e=0) (AG:bm z=true) (AH:(aE vs z).e=0) (ty:(aE vs y).t=jr op (aE vs y).t) (AI:(aE vs z).t=jr op (aE vs y).t):XC vs (.mk op 0 [] [] [y,z] line)
def qN{vs:List Vr}{x:Ex}(Z:bm x=true)(he:(aE vs x).e=0):XC vs x:=by
 obtain⟨op,n,name,field,sub,line⟩:=x;simp only[bm,Ds,ac2,ahI,aed]at Z;obtain⟨A3,M,I,D,J⟩:=Z;simp only[alp,not_and]at A3;obtain⟨A9,AA,AB,AJ,AK⟩:=A3;unfold aE at he;by_cases A':op=1\/op=2
 .rw[aaf (by omega)]at I D;simp only[ac2]at I D;subst I D;have T:sub=[]:=yZ (by rw[M];unfold fe;rcases A' with h|h<;>subst h<;>decide);subst T;rcases A' with h|h
  .subst h;exact .num (by have:=A9 rfl;omega)
  .subst h;have:=AA rfl;exact .qX (by omega)
 .rw[aaf A']at he;have AC:n=0:=by
   have:=AB (by omega);simpa using this
  subst AC;by_cases A0:op=3\/op=4\/op=5
  .rw[ac1 A0]at he;rw[ac1 A0]at I;cases H:bj vs name with
   |none=>rw[H]at he;simp[du]at he
   |some v=>
    rw[H]at he;simp only at he;by_cases A4:op=5
    .subst A4;rw[ac1 rfl]at he D;by_cases O:v.ty<=2
     .rw[ac1 O]at he;simp[du]at he
     .rw[aaf O]at he;have T:sub=[]:=yZ (by rw[M];decide);subst T;cases Y:mn v.ty field with
      |none=>rw[Y]at he;simp[du]at he
      |some q=>exact .GY H (by omega) Y D
    .rw[aaf A4]at he D;simp only[ac2]at D;subst D;by_cases U:v.arr≠decide (op=4)\/2<v.ty
     .rw[ac1 U]at he;simp[du]at he
     .rw[aaf U]at he;simp only[alp,ne_eq,alY]at U;by_cases AD:op=4
      .subst AD;rw[ac1 rfl]at he;obtain⟨y,rfl⟩:=KY (l:=sub) (by rw[M];decide);simp only[bI,Ds]at J;simp only[BN]at he;by_cases V:(aE vs y).e=0
       .rw[aaf (by simpa using V)]at he;by_cases A5:(aE vs y).t=1
        .exact .idx H (by simpa using U.1) (by omega) J.1 V A5
        .rw[ac1 A5]at he;simp[du]at he
       .rw[ac1 V]at he;exact absurd he V
      .have AE:op=3:=by omega
       subst AE;have T:sub=[]:=yZ (by rw[M];decide);subst T;exact .var H (by simpa using U.1) (by omega)
  .rw[aaf A0]at he I;rw[aaf (by omega)]at D;simp only[ac2]at I D;subst I D;by_cases A6:op=6\/op=7
   .obtain⟨y,rfl⟩:=KY (l:=sub) (by rw[M];unfold fe;rcases A6 with h|h<;>subst h<;>decide);simp only[bI,Ds]at J;simp only[xp]at he;obtain⟨g1,g2,g3,g4,g5⟩:=ky he;exact .one A6 J.1 g1 g3
   .have AF:sub.length=2:=by rw[M];unfold fe;rw[aaf (by omega),ac1 (by omega)]
    match sub,AF with
    |[y,z],_=>
     simp only[bI,Ds]at J;simp only[xp]at he;obtain⟨g1,g2,g3,g4,g5⟩:=ky he;exact .two (by omega) J.1 g1 J.2.1 g2 g3 g4
def ny(vs:List Vr)(x:Ex):1<=(ai vs x).1.length:=by
 obtain⟨op,n,name,field,sub,line⟩:=x;unfold ai;split
 .simp
 .split
  .simp
  .split
   .simp
   .split
    .simp
    .simp
def nC(n:Nat)(x:ar):ar:=if x.op=9\/x.op=10 then {x with a:=if 0<=x.a then x.a+n else 0} else x
def dE(n:Nat)(l:List ar):List ar:=l.map (nC n)
def NM{n:Nat}{a:Int}(h:0<=a):nC n (ins 9 a 0 0 0)=ins 9 (a+n) 0 0 0:=by simp[nC,ins,h]
def Fb{n:Nat}{a:Int}(h:0<=a):nC n (ins 10 a 0 0 0)=ins 10 (a+n) 0 0 0:=by simp[nC,ins,h]
@[simp] def qO(n:Nat)(l:List ar):(dE n l).length=l.length:=by simp[dE]
def uZ(n:Nat)(a b:List ar):dE n (a++b)=dE n a++dE n b:=by simp[dE]
@[simp] def BV(n:Nat):dE n []=[]:=rfl
def sq(n:Nat)(x:ar)(l:List ar):dE n (x::l)=nC n x::dE n l:=rfl
def aiD(n k:Nat)(x:ar):nC n (pc k x)=nC (n+k) x:=by
 obtain⟨op,a,b,c,d⟩:=x;unfold nC pc;by_cases h:op=9\/op=10
 .by_cases U:0<=a
  .simp only[h,U,and_self,ad7,ar.mk.injEq,alC,and_true];rw[ac1 (by omega)];omega
  .simp only[h,U,and_false,adN,ad7]
 .simp only[h,false_and,adN]
def Fc(n k:Nat)(l:List ar):dE n (jj k l)=dE (n+k) l:=by
 unfold dE jj;rw[List.map_map];congr 1;funext x;exact aiD n k x
def P6(n:Nat)(a b:List ar):dE n (jn a b)=dE n a++dE (n+a.length) b:=by rw[jn,uZ,Fc]
def Flat(l:List ar):Prop:=∀x∈l,x.op≠9/\x.op≠10
def Flat.dE{l:List ar}(h:Flat l)(n:Nat):Am.dE n l=l:=by
 unfold Am.dE;conv=>rhs;rw[<-List.map_id l]
 refine ama λx D=>?_;have:=h x D;simp[nC,this.1,this.2]
def Flat.app{a b:List ar}(Z:Flat a)(A':Flat b):Flat (a++b):=λx D=>(ada.1 D).elim (Z x) (A' x)
def Flat.nil:Flat []:=λ_ h=>by simp at h
def Flat.one{x:ar}(h:x.op≠9/\x.op≠10):Flat [x]:=λy H=>by simp at H;subst H;exact h
def Flat.cons{x:ar}{l:List ar}(h:x.op≠9/\x.op≠10)(A0:Flat l):Flat (x::l):=λy H=>by
 rcases ac4.1 H with rfl|H
 .exact h
 .exact A0 y H
def dz(k:Int):Nat->List ar->List Int
 |_,[]=>[]
 |n,x::r=>if x.op=9/\x.a=k then (n:Int)::dz k (n+1) r else dz k (n+1) r
def mq(k:Int):∀(a b:List ar)(n:Nat),dz k n (a++b)=dz k n a++dz k (n+a.length) b
 |[],b,n=>by simp[dz]
 |x::a,b,n=>by
  simp only[ahy,dz,mq k a b (n+1),ac5];rw[show n+1+a.length=n+(a.length+1) by omega];split<;>simp
def u0{k:Int}{l:List ar}(h:Flat l)(n:Nat):dz k n l=[]:=by
 induction l generalizing n with
 |nil=>rfl
 |cons x r ih=>
  simp only[dz];rw[aaf (λhh=>(h x (by simp)).1 hh.1)];exact ih (λy H=>h y (by simp[H])) _
def P7{k:Int}{f:ar->ar}(h:∀x,((f x).op=9/\(f x).a=k)↔(x.op=9/\x.a=k)):∀(l:List ar)(n:Nat),dz k n (l.map f)=dz k n l
 |[],n=>rfl
 |x::r,n=>by
  simp only[adz,dz,P7 h r];by_cases D:x.op=9/\x.a=k
  .rw[ac1 D,ac1 ((h x).2 D)]
  .rw[aaf D,aaf (λhh=>D ((h x).1 hh))]
def NN{k:Int}(J:k<0)(j:Nat)(l:List ar)(n:Nat):dz k n (jj j l)=dz k n l:=by
 refine P7 (λx=>?_) l n;unfold pc;split
 .rename_i h;simp only;omega
 .exact amT
def NO{k:Int}(J:k<0)(a b:List ar)(n:Nat):dz k n (jn a b)=dz k n a++dz k (n+a.length) b:=by rw[jn,mq,NN J]
def kI(k to:Int)(x:ar):ar:=if x.op=9/\x.a=k then {x with a:=to} else x
def aiE{k to:Int}(h:to≠k):∀(l:List ar)(n:Nat),dz k n (l.map (kI k to))=[]
 |[],n=>rfl
 |x::r,n=>by
  simp only[adz,dz,aiE h r];rw[aaf];unfold kI;split
  .rintro ⟨_,hh⟩;exact h hh
  .assumption
def VZ{k T to:Int}(A1:to≠T)(A2:k≠T)(l:List ar)(n:Nat):dz T n (l.map (kI k to))=dz T n l:=by
 refine P7 (λx=>?_) l n;unfold kI;split
 .rename_i h;simp only
  constructor
  .rintro ⟨_,hh⟩;exact absurd hh A1
  .rintro ⟨_,hh⟩;exact absurd (h.2.symm.trans hh) A2
 .exact amT
def setAt(l:List ar)(i:Int)(v:Int):List ar:=l.modify i.toNat λx=>{x with a:=v}
def mr(l:List ar)(ps:List Int)(v:Int):List ar:=ps.foldl (λl i=>setAt l i v) l
@[simp] def YP(l:List ar)(i v:Int):(setAt l i v).length=l.length:=by simp[setAt]
@[simp] def JH:∀(ps:List Int)(l:List ar)(v:Int),(mr l ps v).length=l.length
 |[],l,v=>rfl
 |i::r,l,v=>by
  show (mr (setAt l i v) r v).length=_;rw[JH r];simp
def wA(pre:List ar)(x:ar)(post:List ar)(v:Int):setAt (pre++x::post) pre.length v=pre++{x with a:=v}::post:=by
 unfold setAt;rw[Int.toNat_natCast];induction pre with
 |nil=>rfl
 |cons y r ih=>simp only[ahy,ac5,List.modify_succ_cons,ih]
def vE(l:List ar)(i:Int)(r:List Int)(v:Int):mr l (i::r) v=mr (setAt l i v) r v:=rfl
def anu{n:Nat}{k to:Int}{x:ar}(h:x.op=9/\x.a=k)(M:0<=to)(J:k<0):({nC n x with a:=to+n}:ar)=nC n (kI k to x):=by
 obtain⟨op,a,b,c,d⟩:=x;obtain⟨rfl,rfl⟩:=h;simp[nC,kI,M]
def wB{k to:Int}(J:k<0)(M:0<=to)(base:Nat):∀(l pre post:List ar)(n:Nat),pre.length=n->mr (pre++dE base l++post) (dz k n l) (to+base)=pre++dE base (l.map (kI k to))++post
 |[],pre,post,n,h=>by simp[dz,mr]
 |x::r,pre,post,n,h=>by
  have ih:=wB J M base r;simp only[dz,adz,sq];split
  .rename_i D;rw[vE];have e:pre++nC base x::dE base r++post=pre++nC base x::(dE base r++post):=by simp
   rw[e,<-h,wA,anu D M J];have:=ih (pre++[nC base (kI k to x)]) post (pre.length+1) (by simp);simpa using this
  .rename_i D;have O:kI k to x=x:=by unfold kI;rw[aaf D]
   rw[O];have:=ih (pre++[nC base x]) post (n+1) (by simp[h]);simpa using this
def nf(E:Int):Nat->List (List ar)->List (List ar)->List ar
 |_,_,[]=>[]
 |n,[],b::r=>if r=[]then dE n b else dE n b++ins 9 E 0 0 0::nf E (n+b.length+1) [] r
 |n,t::ts,b::r=>
  if r=[]then t++ins 10 (n+t.length+1+b.length) 0 0 0::dE (n+t.length+1) b
  else t++ins 10 (n+t.length+2+b.length) 0 0 0::(dE (n+t.length+1) b++ins 9 E 0 0 0::nf E (n+t.length+2+b.length) ts r)
def BW(E:Int):∀(n:Nat)(ts bs:List (List ar)),(nf E n ts bs).length=(cF ts bs).length
 |_,_,[]=>by simp[nf,cF]
 |n,[],b::r=>by
  simp only[nf,cF];split
  .simp
  .simp[BW E _ [] r,ei];omega
 |n,t::ts,b::r=>by
  simp only[nf,cF];split
  .rename_i h;subst h;simp[ei,cF]
  .simp[BW E _ ts r,ei];omega
def P8:∀(n:Nat)(ts bs:List (List ar)),(∀t∈ts,Flat t)->∀E:Int,E=n+(cF ts bs).length->nf E n ts bs=dE n (cF ts bs)
 |n,_,[],_,_,_=>by simp[nf,cF]
 |n,[],b::r,_,E,I=>by
  simp only[nf,cF]at I⊢;split
  .rfl
  .rename_i h;rw[aaf h]at I;rw[P6,uZ];have e:E=((n+b.length+1:Nat):Int)+(cF [] r).length:=by rw[I];simp[ei];omega
   rw[P8 (n+b.length+1) [] r (by simp) E e];have A3:nC n (ins 9 (b.length+1+(cF [] r).length) 0 0 0)=ins 9 E 0 0 0:=by
    rw[NM (by omega)];congr 1;omega
   have O:dE n [ins 9 (b.length+1+(cF [] r).length) 0 0 0]=[ins 9 E 0 0 0]:=by rw[sq,A3];rfl
   rw[O];simp[adv]
 |n,t::ts,b::r,V,E,I=>by
  have Y:Flat t:=V t (by simp);simp only[nf,cF]at I⊢;rw[P6];by_cases h:r=[]
  .subst h;simp only[ad7,uZ,Fc,Y.dE,cF,BV,agV,sq];have e:nC n (ins 10 (t.length+1+b.length) 0 0 0)=ins 10 (n+t.length+1+b.length) 0 0 0:=by
    rw[Fb (by omega)];congr 1;omega
   rw[e];simp[adv]
  .simp only[aaf h]at I⊢;have e:E=((n+t.length+2+b.length:Nat):Int)+(cF ts r).length:=by rw[I];simp[ei];omega
   rw[P8 (n+t.length+2+b.length) ts r (λt M=>V t (by simp[M])) E e];simp only[uZ,Fc,Y.dE,sq,BV,acY,ac5,ac7,mP];have A4:nC n (ins 10 (t.length+1+(b.length+(0+1):Nat)) 0 0 0)=ins 10 (n+t.length+2+b.length) 0 0 0:=by
    rw[Fb (by omega)];congr 1;omega
   have O:nC (n+(t.length+1)) (ins 9 (b.length+1+(cF ts r).length) 0 0 0)=ins 9 E 0 0 0:=by
    rw[NM (by omega)];congr 1;omega
   rw[A4,O,show n+(t.length+(0+1)+(b.length+(0+1)))=n+t.length+2+b.length by omega];simp[adv]
def arf{k to:Int}(I:k<0)(D:0<=to)(j:Nat)(x:ar):kI k (to+j) (pc j x)=pc j (kI k to x):=by
 obtain⟨op,a,b,c,d⟩:=x;unfold kI pc;by_cases h:op=9/\a=k
 .obtain⟨rfl,rfl⟩:=h;have A1:¬0<=a:=by omega
  simp[A1,D]
 .by_cases A':(op=9\/op=10)/\0<=a
  .have:¬(op=9/\a+(j:Int)=k):=by omega
   simp[h,A',this]
  .simp[h,A']
def adQ{k to:Int}(I:k<0)(D:0<=to)(j:Nat)(l:List ar):(jj j l).map (kI k (to+j))=jj j (l.map (kI k to)):=by
 unfold jj;rw[List.map_map,List.map_map];congr 1;funext x;exact arf I D j x
def YQ{l:List ar}(h:Flat l)(k to:Int):l.map (kI k to)=l:=by
 conv=>rhs;rw[<-List.map_id l]
 refine ama λx A2=>?_;have:=h x A2;simp[kI,this.1]
def z8{k to:Int}{x:ar}(h:x.op=9->x.a≠k):kI k to x=x:=by
 unfold kI;rw[aaf];exact λhh=>h hh.1 hh.2
def ye(l:List ar):sm l=l.map (kI (-1) l.length):=rfl
def HQ{n:Nat}{x:ar}(h:x.op≠9/\x.op≠10):nC n x=x:=by simp[nC,h.1,h.2]
def V0{out t b:List ar}(D:Flat t){n:Nat}(M:out.length=n){H:Int}(Y:H=n+t.length+3+b.length):
 mr (out++(ins 11 0 0 0 0::t++(ins 10 H 0 0 0::dE (n+t.length+2) b++[ins 9 n 0 0 0]))) (dz (-1) (n+t.length+2) b) H=out++dE n (iK t b):=by
 have T:=wB (k:= -1) (to:=b.length+1) (by decide) (by omega) (n+t.length+2) b (out++(ins 11 0 0 0 0::t++[ins 10 H 0 0 0])) [ins 9 n 0 0 0] (n+t.length+2) (by simp;omega);have O:((b.length:Int)+1)+((n+t.length+2:Nat):Int)=H:=by rw[Y];omega
 rw[O]at T;have U:out++(ins 11 0 0 0 0::t++(ins 10 H 0 0 0::dE (n+t.length+2) b++[ins 9 n 0 0 0]))=out++(ins 11 0 0 0 0::t++[ins 10 H 0 0 0])++dE (n+t.length+2) b++[ins 9 n 0 0 0]:=by simp
 rw[U,T];unfold iK;rw[ye];have Z:((ins 11 0 0 0 0::t++[ins 10 (t.length+3+b.length) 0 0 0]++jj (t.length+2) b++[ins 9 0 0 0 0]).length:Int)=((b.length:Int)+1)+((t.length+2:Nat):Int):=by simp;omega
 rw[Z];simp only[alH,adz,List.map_nil,YQ D,adQ (show (-1:Int)<0 by decide) (show 0<=(b.length:Int)+1 by omega),uZ,sq,BV,D.dE,Fc];rw[z8 (by simp[ins]),z8 (by simp[ins]),z8 (by simp[ins]),HQ (by simp[ins]),Fb (by omega),NM (by omega)];have J:ins 10 (t.length+3+b.length+n) 0 0 0=ins 10 H 0 0 0:=by congr 1;omega
 rw[J,show n+(t.length+2)=n+t.length+2 by omega];simp
def YR{k:Int}(I:k<0)(A0:k≠ -1){t b:List ar}(D:Flat t)(n:Nat):dz k n (iK t b)=dz k (n+t.length+2) b:=by
 unfold iK;rw[ye,VZ (by omega) (by omega)];have O:ins 11 0 0 0 0::t++[ins 10 (t.length+3+b.length) 0 0 0]++jj (t.length+2) b++[ins 9 0 0 0 0]=[ins 11 0 0 0 0]++(t++([ins 10 (t.length+3+b.length) 0 0 0]++(jj (t.length+2) b++[ins 9 0 0 0 0]))):=by simp
 rw[O,mq];rw[u0 (Flat.one (by simp[ins])),mq,u0 D,mq,mq,NN I];have e:∀m,dz k m [ins 10 (t.length+3+b.length) 0 0 0]=[]:=λm=>by simp[dz,ins]
 have J:∀m,dz k m [ins 9 0 0 0 0]=[]:=λm=>by simp[dz,ins];omega
 rw[e,J];simp only[aeg,agV,ac5,ac7];congr 1;omega
def P9(l:List ar)(n:Nat):dz (-1) n (sm l)=[]:=aiE (by omega) l n
def abC{out t b:List ar}(D:Flat t){n:Nat}(M:out.length=n){H:Int}(Y:H=n+b.length+t.length+2):
 mr (out++(dE n b++(ins 11 0 0 0 0::t++[ins 10 n 0 0 0]))) (dz (-1) n b) H=out++dE n (mK t b):=by
 have T:=wB (k:= -1) (to:=b.length+t.length+2) (by decide) (by omega) n b out (ins 11 0 0 0 0::t++[ins 10 n 0 0 0]) n M;have O:((b.length:Int)+t.length+2)+(n:Int)=H:=by rw[Y];omega
 rw[O]at T;rw[<-adM,T];unfold mK;rw[ye];have Z:((b++ins 11 0 0 0 0::t++[ins 10 0 0 0 0]).length:Int)=(b.length:Int)+t.length+2:=by simp;omega
 rw[Z];simp only[alH,adz,List.map_nil,YQ D,uZ,sq,BV,D.dE];rw[z8 (by simp[ins]),z8 (by simp[ins]),HQ (by simp[ins]),Fb (by omega)];simp
def ae1{k:Int}(I:k<0)(A0:k≠ -1){t b:List ar}(D:Flat t)(n:Nat):dz k n (mK t b)=dz k n b:=by
 unfold mK;rw[ye,VZ (by omega) (by omega)];have O:b++ins 11 0 0 0 0::t++[ins 10 0 0 0 0]=b++([ins 11 0 0 0 0]++(t++[ins 10 0 0 0 0])):=by simp
 rw[O,mq,mq];rw[u0 (Flat.one (by simp[ins])),mq,u0 D];have e:∀m,dz k m [ins 10 0 0 0 0]=[]:=λm=>by simp[dz,ins]
 rw[e];simp
def abD{out b:List ar}{at_ cell:Int}{n:Nat}(M:out.length=n){H:Int}(Y:H=n+b.length+8):
 mr (out++(ins 11 0 0 0 0::ins 13 at_ cell 0 0::ins 10 H 0 0 0::dE (n+3) b++[ins 2 at_ 0 0 0,ins 2 (cell+1) 0 0 0,ins 8 0 8 0 0,ins 6 at_ 0 0 0,ins 9 n 0 0 0])) (dz (-1) (n+3) b) H=out++dE n (lI at_ cell b):=by
 have T:=wB (k:= -1) (to:=b.length+5) (by decide) (by omega) (n+3) b (out++[ins 11 0 0 0 0,ins 13 at_ cell 0 0,ins 10 H 0 0 0]) [ins 2 at_ 0 0 0,ins 2 (cell+1) 0 0 0,ins 8 0 8 0 0,ins 6 at_ 0 0 0,ins 9 n 0 0 0] (n+3) (by simp[M]);have O:((b.length:Int)+5)+((n+3:Nat):Int)=H:=by rw[Y];omega
 rw[O]at T;have U:out++(ins 11 0 0 0 0::ins 13 at_ cell 0 0::ins 10 H 0 0 0::dE (n+3) b++[ins 2 at_ 0 0 0,ins 2 (cell+1) 0 0 0,ins 8 0 8 0 0,ins 6 at_ 0 0 0,ins 9 n 0 0 0])=out++[ins 11 0 0 0 0,ins 13 at_ cell 0 0,ins 10 H 0 0 0]++dE (n+3) b++[ins 2 at_ 0 0 0,ins 2 (cell+1) 0 0 0,ins 8 0 8 0 0,ins 6 at_ 0 0 0,ins 9 n 0 0 0]:=by simp
 rw[U,T];unfold lI;rw[ye];have Z:(([ins 11 0 0 0 0,ins 13 at_ cell 0 0,ins 10 (b.length+8) 0 0 0]++jj 3 b++[ins 2 at_ 0 0 0,ins 2 (cell+1) 0 0 0,ins 8 0 8 0 0,ins 6 at_ 0 0 0,ins 9 0 0 0 0]).length:Int)=((b.length:Int)+5)+((3:Nat):Int):=by simp;omega
 rw[Z];simp only[alH,adz,List.map_nil,adQ (show (-1:Int)<0 by decide) (show 0<=(b.length:Int)+5 by omega),uZ,sq,BV,Fc];have V:∀x:ar,(x.op≠9/\x.op≠10)->∀to,nC n (kI (-1) to x)=x:=λx h to=>by rw[z8 (λhh=>absurd hh h.1),HQ h]
 have A3:kI (-1) (b.length+5+((3:Nat):Int)) (ins 10 (b.length+8) 0 0 0)=ins 10 (b.length+8) 0 0 0:=z8 (by simp[ins]);have A4:kI (-1) (b.length+5+((3:Nat):Int)) (ins 9 0 0 0 0)=ins 9 0 0 0 0:=z8 (by simp[ins]);rw[A3,A4,V _ (by simp[ins]),V (ins 13 at_ cell 0 0) (by simp[ins]),V (ins 2 at_ 0 0 0) (by simp[ins]),V (ins 2 (cell+1) 0 0 0) (by simp[ins]),V (ins 8 0 8 0 0) (by simp[ins]),V (ins 6 at_ 0 0 0) (by simp[ins]),Fb (by omega),NM (by omega)];have J:ins 10 (b.length+8+n) 0 0 0=ins 10 H 0 0 0:=by congr 1;omega
 rw[J];simp
def ae2{k:Int}(I:k<0)(A0:k≠ -1){b:List ar}{at_ cell:Int}(n:Nat):dz k n (lI at_ cell b)=dz k (n+3) b:=by
 unfold lI;rw[ye,VZ (by omega) (by omega)];rw[mq,mq,NN I];have e:∀m,dz k m [ins 11 0 0 0 0,ins 13 at_ cell 0 0,ins 10 (b.length+8) 0 0 0]=[]:=λm=>by simp[dz,ins]
 have J:∀m,dz k m [ins 2 at_ 0 0 0,ins 2 (cell+1) 0 0 0,ins 8 0 8 0 0,ins 6 at_ 0 0 0,ins 9 0 0 0 0]=[]:=λm=>by simp[dz,ins];omega
 rw[e,J];simp
def iv:Nat->List (List ar)->List (List ar)->List Int
 |_,_,[]=>[]
 |n,[],b::r=>if r=[]then []else ((n+b.length:Nat):Int)::iv (n+b.length+1) [] r
 |n,t::ts,b::r=>if r=[]then []else ((n+t.length+1+b.length:Nat):Int)::iv (n+t.length+2+b.length) ts r
def Aa(k:Int):Nat->List (List ar)->List (List ar)->List Int
 |_,_,[]=>[]
 |n,[],b::r=>dz k n b++(if r=[]then []else Aa k (n+b.length+1) [] r)
 |n,t::ts,b::r=>dz k (n+t.length+1) b++(if r=[]then []else Aa k (n+t.length+2+b.length) ts r)
def K1(E:Int):∀(n:Nat)(ts bs:List (List ar))(pre:List ar),pre.length=n->mr (pre++nf 0 n ts bs) (iv n ts bs) E=pre++nf E n ts bs
 |n,_,[],pre,M=>by simp[nf,iv,mr]
 |n,[],b::r,pre,M=>by
  simp only[nf,iv];split
  .rfl
  .rw[vE];have U:pre++(dE n b++ins 9 0 0 0 0::nf 0 (n+b.length+1) [] r)=(pre++dE n b)++ins 9 0 0 0 0::nf 0 (n+b.length+1) [] r:=by simp
   have J:((n+b.length:Nat):Int)=((pre++dE n b).length:Int):=by simp;omega
   rw[U,J,wA];have ih:=K1 E (n+b.length+1) [] r (pre++dE n b++[ins 9 E 0 0 0]) (by simp;omega);simp only[adM,List.singleton_append]at ih⊢;exact ih
 |n,t::ts,b::r,pre,M=>by
  simp only[nf,iv];split
  .rfl
  .rw[vE];have U:pre++(t++ins 10 (n+t.length+2+b.length) 0 0 0::(dE (n+t.length+1) b++ins 9 0 0 0 0::nf 0 (n+t.length+2+b.length) ts r))=(pre++(t++ins 10 (n+t.length+2+b.length) 0 0 0::dE (n+t.length+1) b))++ins 9 0 0 0 0::nf 0 (n+t.length+2+b.length) ts r:=by simp
   have J:((n+t.length+1+b.length:Nat):Int)=((pre++(t++ins 10 (n+t.length+2+b.length) 0 0 0::dE (n+t.length+1) b)).length:Int):=by simp;omega
   rw[U,J,wA];have ih:=K1 E (n+t.length+2+b.length) ts r (pre++(t++ins 10 (n+t.length+2+b.length) 0 0 0::dE (n+t.length+1) b)++[ins 9 E 0 0 0]) (by simp;omega);simp only[adM,ahy,List.singleton_append]at ih⊢;exact ih
def JI{k:Int}(I:k<0):∀(n:Nat)(ts bs:List (List ar)),(∀t∈ts,Flat t)->dz k n (cF ts bs)=Aa k n ts bs
 |n,_,[],_=>by simp[cF,Aa,dz]
 |n,[],b::r,y=>by
  simp only[cF,Aa];split
  .simp
  .rw[NO I,mq,JI I _ [] r (by simp)];have e:∀m,dz k m [ins 9 (b.length+1+(cF [] r).length) 0 0 0]=[]:=λm=>by simp[dz,ins];omega
   rw[e];simp[adv]
 |n,t::ts,b::r,y=>by
  have A5:Flat t:=y t (by simp);simp only[cF,Aa];rw[NO I,mq,mq,u0 A5,NN I,JI I _ ts r (λt D=>y t (by simp[D]))];have e:∀m a,dz k m [ins 10 a 0 0 0]=[]:=λm a=>by simp[dz,ins]
  rw[e];by_cases h:r=[]
  .subst h;simp[Aa,adv]
  .simp only[aaf h,mq];have J:∀m,dz k m [ins 9 (b.length+1+(cF ts r).length) 0 0 0]=[]:=λm=>by simp[dz,ins];omega
   rw[J];simp only[aeg,agV,acY,ac5,ac7,mP];rw[show n+(t.length+(0+1))=n+t.length+1 by omega,show n+(t.length+(0+1)+(b.length+(0+1)))=n+t.length+2+b.length by omega]
def ae3{pre:List ar}{n:Nat}(M:pre.length=n){ts bs:List (List ar)}(y:∀t∈ts,Flat t):mr (pre++nf 0 n ts bs) (iv n ts bs) (n+(cF ts bs).length)=pre++dE n (cF ts bs):=by
 rw[K1 _ n ts bs pre M,P8 n ts bs y _ rfl]
def qq{v:Vr}(h:dr v=true):0<=cB v:=by
 simp only[dr,Ds]at h;obtain⟨_,_,h,_⟩:=h;unfold cB;split
 .rename_i D;rw[ac1 D]at h;have:=adI h;omega
 .split<;>omega
def DN(k:Int):Nat:=(dQ k).length
def Ab(cells:Int)(x:ar):Prop:=1<=x.op/\x.op<=8/\dH DN cells 0 0 x=true
def mu{cells a n:Int}(Af:0<=a)(A1:0<=n)(A2:a+n<=cells):fW cells a n=true:=by
 unfold fW;simp only[Ds,ac2];omega
def Qa{op n:Int}{name field:Tx}{sub:List Ex}{line:Int}(h:bm (.mk op n name field sub line)=true):1<=op/\op<=21:=by
 simp only[bm,Ds,ahI,aed]at h;have:=h.1;omega
section
variable {vs:List Vr} {cells:Int} (A5:∀v∈vs,dr v=true) (AQ:bW vs<=cells)
include A5 AQ
theorem sL:∀(x:Ex)(S:List Bool),bm x=true->(aE vs x).e=0->aV S.length x<=64->
 (∃f,cV (ai vs x).1 S=some (S++[f])/\((aE vs x).t=2->f=true))/\(ai vs x).2=decide ((aE vs x).t=2)/\((aE vs x).t=1\/(aE vs x).t=2)/\∀y∈(ai vs x).1,Ab cells y
 | .mk op n name field sub line,S,A3,he,I=>by
  obtain⟨H,AR⟩:=qL A3;have Ag:=Qa A3;have AC:=uX A3 he;have AS:∀v∈vs,0<=cB v:=λv J=>qq (A5 v J);have ih:∀y∈sub,∀S:List Bool,aV S.length y<=64->_:=λy D S I=>sL y S ((fT sub).1 AR y D) (AC y D) I;unfold aV at I;unfold ai;have A':aE vs (.mk op n name field sub line)=aE vs (.mk op n name field sub line):=rfl;conv at A'=>rhs;unfold aE
  rw[A']at he⊢;clear A';by_cases A6:op=1\/op=2
  .have hh:S.length<64:=by
    rw[ac1 (by omega)]at I;omega
   simp only[ac1 A6];refine⟨⟨decide (n=0)||decide (n=1),?_,?_⟩,rfl,by simp[gA];exact A6,?_⟩
   .simp[cV,cM,ins,oa hh];rfl
   .intro A1;have A1:op=2:=A1;subst A1;simp[bm]at A3;simp only[ams,ac2];omega
   .intro y D;simp at D;subst D;simp[Ab,ins,dH]
  .simp only[aaf A6]at he⊢;by_cases A0:op=3\/op=4\/op=5
   .simp only[ac1 A0]at he⊢;cases J:bj vs name with
    |none=>rw[J]at he;simp[du]at he
    |some v=>
     rw[J]at he;simp only at he⊢;have AD:=eI J;have AE:=A5 v (qk J).1;have Ah:=wu AS J;have A7:=AE;simp only[dr,Ds]at A7;by_cases A4:op=5
     .subst A4;have hh:S.length<64:=by
       rw[ac1 (by omega)]at I;omega
      simp only[ac1]at he⊢;by_cases AF:v.ty<=2
      .rw[ac1 AF]at he;simp[du]at he
      .rw[aaf AF]at he⊢;cases AG:mn v.ty field with
       |none=>rw[AG]at he;simp[du]at he
       |some p=>
        obtain⟨q1,q2,j,q3,A8⟩:=qM J (by omega) AG;have AT:=P3 q2;have AH:cB v=(dQ v.ty).length:=by
         unfold cB;have V:¬v.arr=true:=by
          intro AU;have O:=A7.2.2.1;rw[ac1 AU]at O;have:=adI O;omega
         rw[aaf V,ac1 (by omega)]
        simp only[show ¬((5:Int)=3) by decide,adN,q1];have M:fW cells (eH vs name field).1 1=true:=mu (by rw[q3];omega) (by omega) (by rw[q3];omega);rcases AT with e|e
        .refine⟨⟨false,?_,λh=>by simp[gA,e]at h⟩,ahL.2 amT,.inl e,?_⟩
         .simp[cV,cM,ins,e,oa hh]
         .intro y D;simp at D;subst D;simp[Ab,ins,dH,e,M]
        .refine⟨⟨true,?_,λ_=>rfl⟩,ahL.2 amT,.inr e,?_⟩
         .simp[cV,cM,ins,e,oa hh]
         .intro y D;simp at D;subst D;simp[Ab,ins,dH,e,M]
     .simp only[aaf A4]at he⊢;by_cases A9:v.arr≠decide (op=4)\/2<v.ty
      .rw[ac1 A9]at he;simp[du]at he
      .simp only[aaf A9]at he⊢;have AI:v.arr=decide (op=4):=by
        cases Ai:v.arr<;>cases Aj:decide (op=4)<;>simp_all
       have Ak:¬2<v.ty:=λh=>A9 (.inr h);have AJ:v.ty=1\/v.ty=2:=by
        rcases KW AE with h|h
        .exact h
        .omega
       by_cases O:op=4
       .subst O;simp only[ac1,show ¬((4:Int)=3) by decide,adN]at he⊢;obtain⟨z,rfl⟩:∃z,sub=[z]:=by
         match sub,H with
         |[z],_=>exact⟨z,rfl⟩
         |[],h=>simp[fe]at h
         |_::_::_,h=>simp[fe]at h
        rw[aaf (by omega)]at I;simp only[iF]at I;obtain⟨⟨f,i1,_⟩,_,_,i4⟩:=ih z (by simp) S (by omega);have AV:=AC z (by simp);have A':BN vs v.ty [z]=gA v.ty:=by
         simp only[BN]at he⊢;rw[aaf (by simpa using AV)]at he⊢;split at he
         .simp[du]at he
         .rename_i AW;rw[aaf AW]
        rw[A'];have V:v.arr=true:=by simpa using AI
        have T:=A7.2.2.1;rw[ac1 V]at T;have T:=adI T;have AH:cB v=v.hi-v.lo+1:=by unfold cB;rw[ac1 V]
        have M:fW cells (bu vs name).1 (v.hi-v.lo+1)=true:=mu (by omega) (by omega) (by omega);have hh:S.length<64:=by omega
        simp only[oQ,AD];rcases AJ with e|e
        .refine⟨⟨false,?_,λh=>by simp[gA,e]at h⟩,ahL.2 amT,.inl e,?_⟩
         .rw[dX,i1];simp[cV,cM,ins,e,Fa,oa hh]
         .intro y D;rcases ada.1 D with D|D
          .exact i4 y D
          .simp at D;subst D;simp[Ab,ins,dH,AY,e,M];omega
        .refine⟨⟨true,?_,λ_=>rfl⟩,ahL.2 amT,.inr e,?_⟩
         .rw[dX,i1];simp[cV,cM,ins,e,Fa,oa hh]
         .intro y D;rcases ada.1 D with D|D
          .exact i4 y D
          .simp at D;subst D;simp[Ab,ins,dH,AY,e,M];omega
       .have A2:op=3:=by omega
        subst A2;have hh:S.length<64:=by
         rw[ac1 (by omega)]at I;omega
        simp only[ac1,aaf O,AD]at he⊢;have V:¬v.arr=true:=by simp[AI]
        have AH:cB v=1:=by unfold cB;rw[aaf V,aaf (by omega)]
        have M:fW cells (bu vs name).1 1=true:=mu (by omega) (by omega) (by omega);rcases AJ with e|e
        .refine⟨⟨false,?_,λh=>by simp[gA,e]at h⟩,ahL.2 amT,.inl e,?_⟩
         .simp[cV,cM,ins,e,oa hh]
         .intro y D;simp at D;subst D;simp[Ab,ins,dH,e,M]
        .refine⟨⟨true,?_,λ_=>rfl⟩,ahL.2 amT,.inr e,?_⟩
         .simp[cV,cM,ins,e,oa hh]
         .intro y D;simp at D;subst D;simp[Ab,ins,dH,e,M]
   .have A2:¬op=3:=λh=>A0 (.inl h);have O:¬op=4:=λh=>A0 (.inr (.inl h));have A4:¬op=5:=λh=>A0 (.inr (.inr h));simp only[aaf A0,aaf A2,aaf O,aaf A4]at he⊢;rw[aaf (by omega)]at I;have hh:S.length<64:=by omega
    match sub,H,ih,he,I with
    |[a],H,ih,he,I=>
     have AX:op=6\/op=7:=by
      simp only[fe]at H;split at H
      .omega
      .split at H<;>simp at H
     simp only[iF]at I;obtain⟨⟨f,i1,i2⟩,i3,i4,i5⟩:=ih a (by simp) S (by omega);obtain⟨_,_,q3,_,AA⟩:=ky he;simp only[xp]at he⊢;simp only[AA,gO];rcases AX with e|e
     .subst e;have Y:(aE vs a).t=1:=by rw[q3];rfl
      have U:(ai vs a).2=false:=by rw[i3,Y];rfl
      simp only[U,ahs,adN,ad7];refine⟨⟨false,?_,λh=>by simp[gA,jS]at h⟩,rfl,.inl rfl,?_⟩
      .rw[dX,i1];simp[cV,cM,ins,Fa,oa hh]
      .intro y D;rcases ada.1 D with D|D
       .exact i5 y D
       .simp at D;subst D;simp[Ab,ins,dH,xQ]
     .subst e;have Y:(aE vs a).t=2:=by rw[q3];rfl
      have U:(ai vs a).2=true:=by rw[i3,Y];rfl
      obtain rfl:=i2 Y;simp only[U,ahs,adN,ad7];refine⟨⟨true,?_,λ_=>rfl⟩,rfl,.inr rfl,?_⟩
      .rw[dX,i1];simp[cV,cM,ins,JG,oa hh]
      .intro y D;rcases ada.1 D with D|D
       .exact i5 y D
       .simp at D;subst D;simp[Ab,ins,dH,xQ]
    |[a,b],H,ih,he,I=>
     have Al:8<=op:=by
      simp only[fe]at H;split at H
      .simp at H
      .split at H
       .omega
       .simp at H
     simp only[iF]at I;obtain⟨⟨f,i1,i2⟩,i3,i4,i5⟩:=ih a (by simp) S (by omega);have AZ:((S++[f]).length:Int)=S.length+1:=by simp
     obtain⟨⟨g,A_,Aa⟩,AK,Ac,Ad⟩:=ih b (by simp) (S++[f]) (by rw[AZ];omega);obtain⟨_,_,q3,A8,AA⟩:=ky he;simp only[xp]at he⊢;simp only[AA,gO];have AL:∀y∈(ai vs a).1++(ai vs b).1,Ab cells y:=by
      intro y D;rcases ada.1 D with D|D
      .exact i5 y D
      .exact Ad y D
     have AM:cV ((ai vs a).1++(ai vs b).1) S=some (S++[f]++[g]):=by rw[dX,i1];exact A_
     have AB:(gA (jS op)).t=if op<=12 then 1 else 2:=by
      simp only[gA,jS];by_cases h:op<=12
      .rw[ac1 (by omega),ac1 h]
      .rw[aaf (by omega),aaf h]
     have AN:decide (op=7\/12<op)=decide ((gA (jS op)).t=2):=by
      rw[AB];by_cases h:op<=12
      .rw[ac1 h];simp;omega
      .rw[aaf h];simp;omega
     have AO:(gA (jS op)).t=1\/(gA (jS op)).t=2:=by
      rw[AB];split<;>simp
     have AP:(gA (jS op)).t=2->(decide (op=7)||decide (13<=op))=true:=by
      rw[AB];split
      .simp
      .intro _;simp;omega
     rcases Ac with e|e
     .have U:(ai vs b).2=false:=by rw[AK,e];rfl
      have Z:jr op (aE vs a).t=1:=by rw[<-A8];exact e
      have An:op<=18:=by
       by_cases h:op<=18
       .exact h
       .exfalso;unfold jr at Z;rw[aaf (by omega),aaf (by omega)]at Z;omega
      simp only[U,ahs,adN,ad7];refine⟨⟨decide (op=7)||decide (13<=op),?_,AP⟩,AN,AO,?_⟩
      .rw[dX,AM];have T:¬(op=6\/op=7):=by omega
       simp only[ad8,cV,cM,ins,ahs,adN];simp only[show ¬((8:Int)=1) by decide,show ¬((8:Int)=2) by decide,show ¬((8:Int)=3\/(8:Int)=13\/(8:Int)=14) by decide,show ¬((8:Int)=4) by decide,show ¬((8:Int)=5) by decide,show ¬((8:Int)=6) by decide,show ¬((8:Int)=7) by decide,adN,ad7,T,show decide ((0:Int)=1)=false by decide];change (((jP 2 false (S++[f]++[g])).bind _).bind _)=_
       rw[abA];simp only[ad8,oa hh];rfl
      .intro y D;rcases ada.1 D with D|D
       .exact AL y D
       .simp at D;subst D;simp[Ab,ins,dH,xQ];exact .inr ⟨ahl (by omega),ahl (by omega)⟩
     .have U:(ai vs b).2=true:=by rw[AK,e];rfl
      have Z:jr op (aE vs a).t=2:=by rw[<-A8];exact e
      have Y:(aE vs a).t=2:=by rw[q3];exact Z
      obtain rfl:=i2 Y;obtain rfl:=Aa e;have Ae:op=13\/op=14\/19<=op:=by
       unfold jr at Z;split at Z
       .omega
       .omega
      simp only[U,ahs,adN,ad7];refine⟨⟨decide (op=7)||decide (13<=op),?_,AP⟩,AN,AO,?_⟩
      .rw[dX,AM];have T:¬(op=6\/op=7):=by omega
       simp only[ad8,cV,cM,ins,ad7];simp only[show ¬((8:Int)=1) by decide,show ¬((8:Int)=2) by decide,show ¬((8:Int)=3\/(8:Int)=13\/(8:Int)=14) by decide,show ¬((8:Int)=4) by decide,show ¬((8:Int)=5) by decide,show ¬((8:Int)=6) by decide,show ¬((8:Int)=7) by decide,adN,ad7,T,show decide ((1:Int)=1)=true by decide];change (((jP 2 true (S++[true]++[true])).bind _).bind _)=_
       rw[adO];simp only[ad8,oa hh];rfl
      .intro y D;rcases ada.1 D with D|D
       .exact AL y D
       .simp at D;subst D;simp[Ab,ins,dH,xQ];rcases Ae with h|h|h
        .exact .inl (.inl (.inr (ahl h)))
        .exact .inl (.inr (ahl h))
        .exact .inr ⟨ahl h,ahl (by omega)⟩
    |[],H,_,_,_=>
     exfalso;simp only[fe,ac7]at H;split at H
     .simp at H
     .split at H
      .simp at H
      .omega
    |a::b::c::d,H,_,_,_=>
     exfalso;simp only[fe]at H;split at H
     .simp at H
     .split at H<;>simp at H
termination_by x=>SizeOf.sizeOf x
decreasing_by all_goals (simp_wf;have:=apM D;omega)
end
def BX(cells:Int)(x:ar):Prop:=gI x\/(dH DN cells 0 0 x=true/\x.op≠15)
structure jz(cells:Int)(ex:Bool)(e:Nat)(l:List ar):Prop where
 le:l.length<=e
 run:cV l []=some []
 ok:∀x∈l,BX cells x
 jmp:∀(i:Nat) x,l[i]?=some x->gI x->0<=x.a->x.a.toNat=e\/(x.a.toNat<=l.length/\cV (l.take x.a.toNat) []=some []/\(i<x.a.toNat\/∃y,l[x.a.toNat]?=some y/\y.op=11))
 out:∀x∈l,gI x->x.a<0->x.op=9/\(x.a= -2\/(ex=true/\x.a= -1))
def Fg(cells:Int)(ex:Bool)(l:List ar):Prop:=jz cells ex l.length l
section
variable {cells:Int} {ex:Bool}
theorem Qc{k:Nat}{x:ar}:gI (pc k x)↔gI x:=by unfold gI;rw[PT]
theorem aiG{k:Nat}{x:ar}(h:BX cells x):BX cells (pc k x):=by
 rcases YO k x with e|⟨e,_⟩
 .rw[e];exact h
 .exact .inl (Qc.2 e)
theorem YS{k:Nat}{x:ar}(H:gI x)(h:0<=x.a):(pc k x).a=x.a+k:=by
 unfold pc;rw[ac1 ⟨H,h⟩]
theorem YT{k:Nat}{x:ar}(h:x.a<0):(pc k x).a=x.a:=by
 unfold pc;rw[aaf (by rintro ⟨_,V⟩;omega)]
theorem abF(k j:Nat)(l:List ar):(jj k l).take j=jj k (l.take j):=by simp[jj]
theorem To(k i:Nat)(l:List ar):(jj k l)[i]?=(l[i]?).map (pc k):=by simp[jj]
theorem jz.wk{e e':Nat}{l:List ar}(h:jz cells ex e l)(he:e=l.length)(V:l.length<=e'):jz cells ex e' l:=by
 subst he;refine⟨V,h.run,h.ok,λi x D H M=>?_,h.out⟩;rcases h.jmp i x D H M with O|O
 .right;have hi:=(aap.1 D).1;exact⟨by omega,by rw[O,List.take_length];exact h.run,.inl (by omega)⟩
 .exact .inr O
theorem jz.plain{l:List ar}(Y:cV l []=some [])(Z:∀x∈l,BX cells x)(H:∀x∈l,¬gI x){e:Nat}(he:l.length<=e):jz cells ex e l:=
 ⟨he,Y,Z,λ_ x D A3=>absurd A3 (H x (ac6 D)),λx D A3=>absurd A3 (H x D)⟩
theorem jz.app{e e':Nat}{A B:List ar}(A':jz cells ex e' B)(he:e=A.length+e')(Y:cV A []=some [])(Z:∀x∈A,BX cells x)
 (H:∀(i:Nat) x,A[i]?=some x->gI x->0<=x.a->x.a.toNat=e\/(x.a.toNat<=A.length+B.length/\cV ((A++jj A.length B).take x.a.toNat) []=some []/\(i<x.a.toNat\/∃y,(A++jj A.length B)[x.a.toNat]?=some y/\y.op=11)))
 (AC:∀x∈A,gI x->x.a<0->x.op=9/\(x.a= -2\/(ex=true/\x.a= -1))):jz cells ex e (A++jj A.length B):=by
 have hle:=A'.le;refine⟨by simp;omega,?_,?_,?_,?_⟩
 .rw[dX,Y];show cV (jj _ B) []=_;rw[K0];exact A'.run
 .intro x D;rcases ada.1 D with D|D
  .exact Z x D
  .obtain⟨y,I,rfl⟩:=adk.1 D;exact aiG (A'.ok y I)
 .intro i x D A0 M;by_cases hi:i<A.length
  .rw[ac9 hi]at D;rcases H i x D A0 M with h|h
   .exact .inl h
   .refine .inr ⟨by simp;omega,h.2⟩
  .rw[adb (by omega),To]at D;obtain⟨y,I,rfl⟩:=ac3.1 D;have A1:=Qc.1 A0;have A2:0<=y.a:=by
    by_cases h:0<=y.a
    .exact h
    .rw[YT (by omega)]at M;exact M
   rw[YS A1 A2];have AD:(y.a+(A.length:Int)).toNat=A.length+y.a.toNat:=by omega
   rw[AD];rcases A'.jmp _ y I A1 A2 with h|⟨O,U,J⟩
   .exact .inl (by omega)
   .refine .inr ⟨by simp;omega,?_,?_⟩
    .rw[List.take_append,adK (by omega),dX,Y];show cV ((jj _ B).take _) []=_;rw[abF,K0,Nat.add_sub_cancel_left];exact U
    .rcases J with J|⟨z,A4,A5⟩
     .exact .inl (by omega)
     .refine .inr ⟨pc A.length z,?_,by rw[PT];exact A5⟩;rw[adb (by omega),To,Nat.add_sub_cancel_left,A4];rfl
 .intro x D A0 M;rcases ada.1 D with D|D
  .exact AC x D A0 M
  .obtain⟨y,I,rfl⟩:=adk.1 D;have A1:=Qc.1 A0;have A2:y.a<0:=by
    by_cases h:0<=y.a
    .rw[YS A1 h]at M;omega
    .omega
   rw[YT A2,PT];exact A'.out y I A1 A2
theorem jz.jn{e e':Nat}{a b:List ar}(M:jz cells ex e a)(A6:jz cells ex e' b)(he:e=a.length+e'):jz cells ex e (jn a b):=by
 refine A6.app he M.run M.ok ?_ M.out;intro i x D H T;rcases M.jmp i x D H T with h|⟨O,U,J⟩
 .exact .inl h
 .refine .inr ⟨by omega,?_,?_⟩
  .rw[ahb O];exact U
  .rcases J with J|⟨y,I,A7⟩
   .exact .inl J
   .exact .inr ⟨y,by rw[ac9 (aap.1 I).1];exact I,A7⟩
theorem Fg.jn{a b:List ar}(M:Fg cells ex a)(A6:Fg cells ex b):Fg cells ex (jn a b):=by
 unfold Fg;rw[ei];exact jz.jn (M.wk rfl (by omega)) A6 rfl
theorem jz.tail{e A9:Nat}{l q:List ar}(h:jz cells ex A9 l)(T:A9=e)(Y:cV q []=some [])(Z:∀x∈q,BX cells x)(AA:∀x∈q,gI x->x.a=0)
 (AE:∃y,(l++q)[0]?=some y/\y.op=11) (AF:(l++q).length<=e):jz cells ex e (l++q):=by
 subst T;refine⟨AF,?_,?_,?_,?_⟩
 .rw[dX,h.run];exact Y
 .intro x D;rcases ada.1 D with D|D
  .exact h.ok x D
  .exact Z x D
 .intro i x D H T;by_cases hi:i<l.length
  .rw[ac9 hi]at D;rcases h.jmp i x D H T with h|⟨O,U,J⟩
   .exact .inl h
   .refine .inr ⟨by simp;omega,by rw[ahb O];exact U,?_⟩;rcases J with J|⟨y,I,A7⟩
    .exact .inl J
    .exact .inr ⟨y,by rw[ac9 (aap.1 I).1];exact I,A7⟩
  .rw[adb (by omega)]at D;have:=AA x (ac6 D) H;rw[this];exact .inr ⟨by simp,rfl,.inr AE⟩
 .intro x D H T;rcases ada.1 D with D|D
  .exact h.out x D H T
  .have:=AA x D H;omega
theorem aiH{k:Int}{x:ar}(AG:0<=k):(uu k x).a<0->x.a<0/\¬(x.op=9/\x.a= -1)/\uu k x=x:=by
 unfold uu;split
 .rename_i h;intro V;simp only at V;omega
 .rename_i h;exact λV=>⟨V,h,rfl⟩
theorem Fg.V2{l:List ar}(h:Fg cells true l):Fg cells ex (sm l):=by
 have A8:∀x,gI (uu l.length x)↔gI x:=λx=>by unfold gI;rw[YI]
 unfold Fg;rw[so];refine⟨by simp,?_,?_,?_,?_⟩
 .rw[sm,uY (P4 _)];exact h.run
 .intro x D;obtain⟨y,I,rfl⟩:=adk.1 D;rcases P4 (l.length:Int) y with e|⟨e,_⟩
  .rw[e];exact h.ok y I
  .exact .inl ((A8 y).2 e)
 .intro i x D H T;unfold sm at D;rw[adn]at D;obtain⟨y,I,rfl⟩:=ac3.1 D;by_cases AB:y.op=9/\y.a= -1
  .left;unfold uu;rw[ac1 AB];simp
  .have e:uu l.length y=y:=by unfold uu;rw[aaf AB]
   rw[e]at T⊢;rcases h.jmp i y I ((A8 y).1 H) T with O|⟨O,U,J⟩
   .exact .inl O
   .refine .inr ⟨by simpa using O,?_,?_⟩
    .unfold sm;rw[<-apP,uY (P4 _)];exact U
    .rcases J with J|⟨z,A4,A5⟩
     .exact .inl J
     .refine .inr ⟨uu l.length z,?_,by rw[YI];exact A5⟩;unfold sm;rw[adn,A4];rfl
 .intro x D H T;obtain⟨y,I,rfl⟩:=adk.1 D;obtain⟨O,U,J⟩:=aiH (by omega) T;rw[J]at T⊢;obtain⟨q1,q2⟩:=h.out y I ((A8 y).1 H) O;refine⟨q1,?_⟩;rcases q2 with q2|⟨_,q2⟩
  .exact .inl q2
  .exact absurd ⟨q1,q2⟩ U
end
section
variable {cells:Int} {ex:Bool}
theorem y9{x:ar}(h:Ab cells x):BX cells x/\¬gI x:=by
 obtain⟨J,U,Y⟩:=h;exact⟨.inr ⟨Y,by omega⟩,by unfold gI;omega⟩
def Qe(cells:Int)(t:List ar):Prop:=cV t []=some [true]/\∀x∈t,BX cells x/\¬gI x
theorem Tp{e:Nat}(h:1<=e):jz cells ex e [ins 9 (e:Int) 0 0 0]:=by
 refine⟨by simpa using h,by simp[cV,cM,ins,iI],?_,?_,?_⟩
 .intro x D;simp at D;subst D;exact .inl (.inl rfl)
 .intro i x D H M;cases i with
  |zero=>simp at D;subst D;exact .inl (by simp[ins])
  |succ i=>simp at D
 .intro x D H M;simp at D;subst D;simp only[ins]at M;omega
theorem Tq{e:Nat}{t p:List ar}(I:Qe cells t)(A2:jz cells ex e p):jz cells ex (t.length+1+e) (t++[ins 10 ((t.length:Int)+1+p.length) 0 0 0]++jj (t.length+1) p):=by
 have V:cV (t++[ins 10 ((t.length:Int)+1+p.length) 0 0 0]) []=some []:=by
  rw[dX,I.1];have:=JG [];simp only[aeg]at this;simp[cV,cM,ins,this,iI]
 have O:(t++[ins 10 ((t.length:Int)+1+p.length) 0 0 0]).length=t.length+1:=by simp
 have:=A2.app (e:=t.length+1+e) (A:=t++[ins 10 ((t.length:Int)+1+p.length) 0 0 0]) (by rw[O]) V ?_ ?_ ?_
 .rw[O]at this;exact this
 .intro x D;rcases ada.1 D with D|D
  .exact (I.2 x D).1
  .simp at D;subst D;exact .inl (.inr rfl)
 .intro i x D H M;by_cases hi:i<t.length
  .rw[ac9 hi]at D;exact absurd H (I.2 x (ac6 D)).2
  .rw[adb (by omega)]at D;have:i-t.length=0:=by
    have:=(aap.1 D).1;simp at this;omega
   rw[this]at D;simp at D;subst D;have A6:((ins 10 ((t.length:Int)+1+p.length) 0 0 0).a).toNat=t.length+1+p.length:=by simp only[ins];omega
   rw[A6];refine .inr ⟨by simp,?_,.inl (by omega)⟩;rw[adK (by simp;omega)];rw[dX,V];show cV (jj _ p) []=_;rw[K0];exact A2.run
 .intro x D H M;rcases ada.1 D with D|D
  .exact absurd H (I.2 x D).2
  .simp at D;subst D;simp only[ins]at M;omega
theorem F8(b:List ar)(r:List (List ar)):cF [] (b::r)=if r=[]then b else jn (b++[ins 9 ((b.length:Int)+1+(cF [] r).length) 0 0 0]) (cF [] r):=by rw[cF]
theorem Tr(b:List ar)(n:Nat):b++[ins 9 ((b.length:Int)+1+n) 0 0 0]=jn b [ins 9 (((1+n:Nat)):Int) 0 0 0]:=by
 simp only[jn,jj,adz,List.map_nil];congr 2;unfold pc;rw[ac1 ⟨.inl rfl,by simp only[ins];omega⟩];simp only[ins,ar.mk.injEq,alC,and_true];omega
theorem NP:∀(ts bs:List (List ar)),(∀t∈ts,Qe cells t)->(∀b∈bs,Fg cells ex b)->Fg cells ex (cF ts bs)
 |[],[],_,_=>by
  rw[cF];exact jz.plain rfl (by simp) (by simp) (by simp)
 |_::_,[],_,_=>by
  rw[cF];exact jz.plain rfl (by simp) (by simp) (by simp)
 |[],b::r,I,T=>by
  have Z:=T b (by simp);have ih:=NP [] r I (λx D=>T x (by simp[D]));rw[F8];split
  .exact Z
  .generalize cF [] r=out at ih⊢;rw[Tr];have J:jz cells ex (b.length+(1+out.length)) (jn b [ins 9 (((1+out.length:Nat)):Int) 0 0 0]):=jz.jn (Z.wk rfl (by omega)) (Tp (by omega)) rfl;unfold Fg;rw[ei];have e:(jn b [ins 9 (((1+out.length:Nat)):Int) 0 0 0]).length=b.length+1:=by rw[ei];rfl
   rw[e];have:=jz.jn (e:=b.length+1+out.length) (b:=out) (e':=out.length) (by rw[show b.length+1+out.length=b.length+(1+out.length) by omega];exact J) ih (by rw[e]);exact this
 |t::ts,b::r,I,T=>by
  have Z:=T b (by simp);have A3:=I t (by simp);have ih:=NP ts r (λx D=>I x (by simp[D])) (λx D=>T x (by simp[D]));rw[cF];generalize cF ts r=out at ih⊢;split
  .have J:=Tq A3 Z;have O:(t++[ins 10 ((t.length:Int)+1+b.length) 0 0 0]++jj (t.length+1) b).length=t.length+1+b.length:=by simp;omega
   unfold Fg;rw[ei,O];refine jz.jn (e':=out.length) ?_ ih (by rw[O]);exact (show jz cells ex (t.length+1+b.length) _ from J).wk O.symm (by rw[O];omega)
  .rw[Tr];have J:jz cells ex (b.length+(1+out.length)) (jn b [ins 9 (((1+out.length:Nat)):Int) 0 0 0]):=jz.jn (Z.wk rfl (by omega)) (Tp (by omega)) rfl;have U:=Tq A3 J;have e:(jn b [ins 9 (((1+out.length:Nat)):Int) 0 0 0]).length=b.length+1:=by rw[ei];rfl
   generalize jn b [ins 9 (((1+out.length:Nat)):Int) 0 0 0]=part at U e⊢;have O:(t++[ins 10 ((t.length:Int)+1+part.length) 0 0 0]++jj (t.length+1) part).length=t.length+1+(b.length+1):=by simp[e];omega
   unfold Fg;rw[ei,O];refine jz.jn (e':=out.length) ?_ ih (by rw[O]);rw[show t.length+1+(b.length+1)+out.length=t.length+1+(b.length+(1+out.length)) by omega];exact U
theorem sM:BX cells (ins 11 0 0 0 0)/\¬gI (ins 11 0 0 0 0):=⟨.inr ⟨by simp[dH,ins],by simp[ins]⟩,by simp[gI,ins]⟩
theorem HR(S:List ar):cV (ins 11 0 0 0 0::S) []=cV S []:=by simp[cV,cM,ins,iI]
theorem abG{t b:List ar}(I:Qe cells t)(T:Fg cells true b):Fg cells ex (iK t b):=by
 unfold iK;refine Fg.V2 ?_;have O:(ins 11 0 0 0 0::t).length=t.length+1:=by simp
 have A':Qe cells (ins 11 0 0 0 0::t):=⟨by rw[HR];exact I.1,λx D=>by
  rcases ac4.1 D with rfl|D
  .exact sM
  .exact I.2 x D⟩
 --A7 test leads behind A7 jump back
 have V:cV (ins 11 0 0 0 0::t++[ins 10 ((t.length:Int)+3+b.length) 0 0 0]) []=some []:=by
  rw[dX,A'.1];have:=JG [];simp only[aeg]at this;simp[cV,cM,ins,this,iI]
 have A4:(ins 11 0 0 0 0::t++[ins 10 ((t.length:Int)+3+b.length) 0 0 0]).length=t.length+2:=by simp
 have A0:jz cells true (b.length+1) b:=jz.wk T rfl (by omega);have J:=A0.app (e:=t.length+3+b.length) (A:=ins 11 0 0 0 0::t++[ins 10 ((t.length:Int)+3+b.length) 0 0 0]) (by rw[A4];omega) V ?_ ?_ ?_
 .rw[A4]at J;unfold Fg;have e:(ins 11 0 0 0 0::t++[ins 10 ((t.length:Int)+3+b.length) 0 0 0]++jj (t.length+2) b++[ins 9 0 0 0 0]).length=t.length+3+b.length:=by simp;omega
  have Y:=jz.tail J (e:=t.length+3+b.length) rfl (q:=[ins 9 0 0 0 0]) (by simp[cV,cM,ins,iI]) (by
   intro x D;simp at D;subst D;exact .inl (.inl rfl)) (by
   intro x D _;simp at D;subst D;rfl) ⟨ins 11 0 0 0 0,by simp,rfl⟩ (by rw[e];omega)
  rw[e];exact Y
 .intro x D;rcases ada.1 D with D|D
  .exact (A'.2 x D).1
  .simp at D;subst D;exact .inl (.inr rfl)
 .intro i x D H M;by_cases hi:i<(ins 11 0 0 0 0::t).length
  .rw[ac9 hi]at D;exact absurd H (A'.2 x (ac6 D)).2
  .rw[adb (by omega)]at D;have:i-(ins 11 0 0 0 0::t).length=0:=by
    have:=(aap.1 D).1;simp at this⊢;omega
   rw[this]at D;simp at D;subst D;left;simp only[ins];omega
 .intro x D H M;rcases ada.1 D with D|D
  .exact absurd H (A'.2 x D).2
  .simp at D;subst D;simp only[ins]at M;omega
theorem aiJ{t b:List ar}(I:Qe cells t)(T:Fg cells true b)(hh:b=[]\/∃y,b[0]?=some y/\y.op=11):Fg cells ex (mK t b):=by
 unfold mK;refine Fg.V2 ?_;unfold Fg;have e:b++ins 11 0 0 0 0::t++[ins 10 0 0 0 0]=b++(ins 11 0 0 0 0::t++[ins 10 0 0 0 0]):=by simp
 rw[e];refine jz.tail (jz.wk T rfl (by simp)) rfl ?_ ?_ ?_ ?_ (aar _)
 .rw[dX,HR,I.1];have:=JG [];simp only[aeg]at this;simp[cV,cM,ins,this,iI]
 .intro x D;rcases ada.1 D with D|D
  .rcases ac4.1 D with rfl|D
   .exact (sM (cells:=cells)).1
   .exact (I.2 x D).1
  .simp at D;subst D;exact .inl (.inr rfl)
 .intro x D H;rcases ada.1 D with D|D
  .rcases ac4.1 D with rfl|D
   .exact absurd H (sM (cells:=cells)).2
   .exact absurd H (I.2 x D).2
  .simp at D;subst D;rfl
 .rcases hh with rfl|⟨y,A5,A8⟩
  .exact⟨ins 11 0 0 0 0,by simp,rfl⟩
  .exact⟨y,by rw[ac9 (aap.1 A5).1];exact A5,A8⟩
theorem aiK{a c:Int}{b:List ar}(A1:fW cells a 1=true)(A9:fW cells c 2=true)(AA:fW cells (c+1) 1=true)(T:Fg cells true b):Fg cells ex (lI a c b):=by
 unfold lI;refine Fg.V2 ?_;have V:cV [ins 11 0 0 0 0,ins 13 a c 0 0,ins 10 ((b.length:Int)+8) 0 0 0] []=some []:=by
  have:=JG [];simp only[aeg]at this;simp[cV,cM,ins,this,iI,fm]
 have A0:jz cells true (b.length+5) b:=jz.wk T rfl (by omega);have J:=A0.app (e:=b.length+8) (A:=[ins 11 0 0 0 0,ins 13 a c 0 0,ins 10 ((b.length:Int)+8) 0 0 0]) (by simp;omega) V ?_ ?_ ?_
 .unfold Fg;have e:([ins 11 0 0 0 0,ins 13 a c 0 0,ins 10 ((b.length:Int)+8) 0 0 0]++jj 3 b++[ins 2 a 0 0 0,ins 2 (c+1) 0 0 0,ins 8 0 8 0 0,ins 6 a 0 0 0,ins 9 0 0 0 0]).length=b.length+8:=by simp
  have Y:=jz.tail J (e:=b.length+8) rfl (q:=[ins 2 a 0 0 0,ins 2 (c+1) 0 0 0,ins 8 0 8 0 0,ins 6 a 0 0 0,ins 9 0 0 0 0]) (by
   have U:=abA [] false false;have J:=Fa [] false;simp only[aeg,ahy]at J U;simp[cV,cM,ins,iI,fm,J,U]) (by
   intro x D;simp at D;rcases D with rfl|rfl|rfl|rfl|rfl
   .exact .inr ⟨by simp[dH,ins,A1],by simp[ins]⟩
   .exact .inr ⟨by simp[dH,ins,AA],by simp[ins]⟩
   .exact .inr ⟨by simp[dH,ins,xQ],by simp[ins]⟩
   .exact .inr ⟨by simp[dH,ins,A1],by simp[ins]⟩
   .exact .inl (.inl rfl)) (by
   intro x D H;simp at D;rcases D with rfl|rfl|rfl|rfl|rfl
   .simp[gI,ins]at H
   .simp[gI,ins]at H
   .simp[gI,ins]at H
   .simp[gI,ins]at H
   .rfl) ⟨ins 11 0 0 0 0,rfl,rfl⟩ (by rw[<-e];exact aar _)
  rw[e];exact Y
 .intro x D;simp at D;rcases D with rfl|rfl|rfl
  .exact (sM (cells:=cells)).1
  .exact .inr ⟨by simp[dH,ins,A1,A9],by simp[ins]⟩
  .exact .inl (.inr rfl)
 .intro i x D H M;match i,D with
  |0,D=>simp at D;subst D;exact absurd H (sM (cells:=cells)).2
  |1,D=>simp at D;subst D;simp[gI,ins]at H
  |2,D=>
   simp at D;subst D;left;simp only[ins];omega
  |i+3,D=>simp at D
 .intro x D H M;simp at D;rcases D with rfl|rfl|rfl
  .exact absurd H (sM (cells:=cells)).2
  .simp[gI,ins]at H
  .simp only[ins]at M;omega
end
section
variable {vs:List Vr}
mutual
theorem Ac:∀(s:Sm)(c:Int),c<=(b8 vs s c).2
 | .mk op name to val conds AP fields blocks line,c=>by
  have A':=ng blocks;have Y:=MH blocks;unfold b8;split
  .exact al4 _
  .split
   .exact A' c
   .split
    .have:=A' (c+1);simp only;omega
    .split
     .have:=Y (c+2);simp only;omega
     .split
      .exact Y c
      .split
       .exact Y c
       .split
        .exact al4 _
        .split<;>exact al4 _
theorem gx:∀(l:List Sm)(c:Int),c<=(ag vs l c).2
 |[],c=>al4 _
 |x::r,c=>by
  have A':=Ac x c;have Y:=gx r (b8 vs x c).2;simp only[ag];omega
theorem ng:∀(l:List (List Sm))(c:Int),c<=(ay vs l c).2
 |[],c=>al4 _
 |b::r,c=>by
  have A':=gx b c;have Y:=ng r (ag vs b c).2;simp only[ay];omega
theorem MH:∀(l:List (List Sm))(c:Int),c<=(lJ vs l c).2
 |[],c=>al4 _
 |b::r,c=>gx b c
end
end
def V3(vs:List Vr):∀(l:List Sm)(c:Int),(ag vs l c).1=[]\/∃y,(ag vs l c).1[0]?=some y/\y.op=11
 |[],c=>.inl rfl
 |x::r,c=>.inr ⟨ins 11 0 0 0 0,by simp[ag,jn],rfl⟩
def Ts{h:Int}:∀{l:List Ex},nx l<=h->∀x∈l,aV 0 x<=h
 |y::r,H,x,J=>by
  simp only[nx]at H;rcases ac4.1 J with rfl|J
  .omega
  .exact Ts (by omega) x J
section
variable {vs:List Vr} {cells:Int} (I:∀v∈vs,dr v=true) (O:bW vs<=cells)
include I O
theorem Qf{x:Ex}(Z:bm x=true)(hw:(ew vs x 2).1=0)(H:aV 0 x<=64):Qe cells (ai vs x).1:=by
 obtain⟨A',Y⟩:=sJ.1 hw;obtain⟨⟨f,i1,i2⟩,_,_,i4⟩:=sL I O x [] Z A' (by simpa using H);obtain rfl:=i2 Y;exact⟨i1,λy D=>y9 (i4 y D)⟩
theorem Qg{ex:Bool}{x:Ex}{a:Int}(Z:bm x=true)(he:(aE vs x).e=0)(H:aV 0 x<=64)(V:fW cells a 1=true):cV ((ai vs x).1++[ins 6 a 0 0 0]) []=some []/\∀y∈(ai vs x).1++[ins 6 a 0 0 0],BX cells y/\¬gI y:=by
 obtain⟨⟨f,i1,i2⟩,_,_,i4⟩:=sL I O x [] Z he (by simpa using H);constructor
 .rw[dX,i1];have:=Fa [] f;simp only[aeg]at this;simp[cV,cM,ins,this]
 .intro y D;rcases ada.1 D with D|D
  .exact y9 (i4 y D)
  .simp at D;subst D;exact⟨.inr ⟨by simp[dH,ins,V],by simp[ins]⟩,by simp[gI,ins]⟩
theorem zb{ex:Bool}{l:List ar}(h:cV l []=some []/\∀y∈l,BX cells y/\¬gI y):Fg cells ex l:=
 jz.plain h.1 (λx J=>(h.2 x J).1) (λx J=>(h.2 x J).2) (aar _)
omit I in
theorem ae4{c:Int}(h:fW cells c 1=true)(l:List Int):Qe cells (ins 1 0 0 0 0::dy c l):=by
 have key:∀(n:Nat)(l:List Int),l.length<=n->cV (dy c l) [true]=some [true]/\∀x∈dy c l,BX cells x/\¬gI x:=by
  intro n;induction n with
  |zero=>
   intro l T;obtain rfl:l=[]:=adf (by omega);exact⟨rfl,by simp[dy]⟩
  |succ n ih=>
   intro l T;match l,T with
   |[],_=>exact⟨rfl,by simp[dy]⟩
   |[a],_=>exact⟨rfl,by simp[dy]⟩
   |a::b::r,T=>
    obtain⟨i1,i2⟩:=ih r (by simp at T;omega);constructor
    .have:=adO [];simp only[aeg,ahy]at this;simp[dy,cV,cM,ins,fm,this,i1]
    .intro x J;simp only[dy,ac4]at J;rcases J with rfl|rfl|J
     .exact⟨.inr ⟨by simp[dH,ins,h],by simp[ins]⟩,by simp[gI,ins]⟩
     .exact⟨.inr ⟨by simp[dH,ins,xQ],by simp[ins]⟩,by simp[gI,ins]⟩
     .exact i2 x J
 obtain⟨i1,i2⟩:=key l.length l (aar _);refine⟨by simp[cV,cM,ins,fm,i1],λx J=>?_⟩;rcases ac4.1 J with rfl|J
 .exact⟨.inr ⟨by simp[dH,ins],by simp[ins]⟩,by simp[gI,ins]⟩
 .exact i2 x J
theorem u4{s:Tx}{v:Vr}(h:bj vs s=some v)(V:¬v.arr=true)(H:v.ty<=2):fW cells (bu vs s).1 1=true:=by
 have A1:∀v∈vs,0<=cB v:=λv M=>qq (I v M);have A7:=wu A1 h;have A8:cB v=1:=by unfold cB;rw[aaf V,aaf (by omega)]
 exact mu (by omega) (by omega) (by omega)
theorem Tt{s:Tx}{v:Vr}(h:bj vs s=some v)(V:v.arr=true):AY cells (ins 7 (bu vs s).1 0 v.lo v.hi)=true:=by
 have A1:∀v∈vs,0<=cB v:=λv M=>qq (I v M);have A7:=wu A1 h;have A0:=I v (qk h).1;simp only[dr,Ds]at A0;have U:=A0.2.2.1;rw[ac1 V]at U;have U:=adI U;have A8:cB v=v.hi-v.lo+1:=by unfold cB;rw[ac1 V]
 have A3:fW cells (bu vs s).1 (v.hi-v.lo+1)=true:=mu (by omega) (by omega) (by omega);unfold AY;simp only[Ds];exact⟨⟨⟨ahl (show (0:Int)<=v.lo by omega),ahl (show v.lo<=v.hi by omega)⟩,ahl (show v.hi<=255 by omega)⟩,A3⟩
theorem nh{s:Tx}{v:Vr}(h:bj vs s=some v)(H:2<v.ty):0<=(bu vs s).1/\(bu vs s).1+(dQ v.ty).length<=cells/\0<(dQ v.ty).length:=by
 have A1:∀v∈vs,0<=cB v:=λv M=>qq (I v M);have A7:=wu A1 h;have A0:=I v (qk h).1;have A9:tN v.ty=true:=by
  rcases KW A0 with h|h
  .omega
  .exact h.2.2
 simp only[dr,Ds]at A0;have A2:¬v.arr=true:=by
  intro V;have U:=A0.2.2.1;rw[ac1 V]at U;have U:=adI U;omega
 have A8:cB v=(dQ v.ty).length:=by unfold cB;rw[aaf A2,ac1 H]
 refine⟨by omega,by omega,?_⟩;unfold tN at A9;have:=adI A9;omega
theorem anv{ex:Bool}{to val:Ex}{line:Int}(A4:bQ to=3\/bQ to=4)(f1:bm to=true)(f2:bm val=true)(h:(JA vs to val line).1=0)(H:(if bQ to=3 then aV 0 val else max (iF 0 (di to)) (aV 1 val))<=64):
 Fg cells ex (if bQ to=3 then (ai vs val).1++[ins 6 (bu vs (eh to)).1 0 0 0]else oQ vs (di to)++((ai vs val).1++[ins 7 (bu vs (eh to)).1 0 (bu vs (eh to)).2.lo (bu vs (eh to)).2.hi])):=by
 obtain⟨op,n,name,field,sub,l⟩:=to;simp only[kP,BM,nZ]at A4 H⊢;unfold JA at h;simp only[BM]at h;cases M:bj vs name with
 |none=>rw[M]at h;simp at h
 |some v=>
  rw[M]at h;simp only at h;split at h
  .simp at h
  .obtain⟨q1,AC⟩:=bM.1 h;obtain⟨AD,_⟩:=bM.1 AC;have q1:(aE vs (.mk op n name field sub l)).e=0:=q1;have q2:(aE vs val).e=0:=AD;have AE:=uX f1 q1;obtain⟨AF,AG⟩:=qL f1;have AH:=eI M;unfold aE at q1;rw[aaf (by omega),ac1 (by omega),M]at q1;simp only at q1;rw[aaf (by omega)]at q1;by_cases AA:v.arr≠decide (op=4)\/2<v.ty
   .rw[ac1 AA]at q1;simp[du]at q1
   .have AB:v.arr=decide (op=4):=by
     cases AQ:v.arr<;>cases AR:decide (op=4)<;>simp_all
    have AS:¬2<v.ty:=λh=>AA (.inr h);by_cases AI:op=3
    .subst AI;have H:aV 0 val<=64:=H;have A2:¬v.arr=true:=by rw[AB];decide
     exact zb (l:=(ai vs val).1++[ins 6 (bu vs name).1 0 0 0]) I O (Qg (ex:=ex) I O f2 q2 H (u4 I O M A2 (by omega)))
    .have AJ:op=4:=by omega
     subst AJ;have H:max (iF 0 sub) (aV 1 val)<=64:=H;obtain⟨z,rfl⟩:∃z,sub=[z]:=by
      match sub,AF with
      |[z],_=>exact⟨z,rfl⟩
      |[],h=>simp[fe]at h
      |_::_::_,h=>simp[fe]at h
     simp only[iF]at H;have AK:=(fT _).1 AG z (by simp);obtain⟨⟨f,i1,_⟩,_,_,i4⟩:=sL I O z [] AK (AE z (by simp)) (by simp;omega);obtain⟨⟨g,A5,_⟩,_,_,AL⟩:=sL I O val [f] f2 q2 (by simp;omega);have A2:v.arr=true:=by rw[AB];decide
     have U:=Tt I O M A2;simp only[oQ,AH];refine zb (l:=(ai vs z).1++((ai vs val).1++[ins 7 (bu vs name).1 0 v.lo v.hi])) I O ⟨?_,?_⟩
     .rw[dX,i1];simp only[aeg,ad8];rw[dX,A5];have:=abA [] f g;simp only[aeg,ahy]at this;simp[cV,cM,ins,this]
     .intro y D;rcases ada.1 D with D|D
      .exact y9 (i4 y D)
      .rcases ada.1 D with D|D
       .exact y9 (AL y D)
       .simp at D;subst D;refine⟨.inr ⟨?_,by simp[ins]⟩,by simp[gI,ins]⟩;unfold dH;simp only[ins]at U⊢;simpa using U
theorem Tu{name:Tx}{v:Vr}{line:Int}(M:bj vs name=some v)(H:2<v.ty):∀(fs:List Tx)(xs:List Ex)(p:List Tx),xs.length=fs.length->bI xs=true->(iU vs v.ty line fs xs p).1=0->nx xs<=64->
 cV (dC vs name fs xs) []=some []/\∀y∈dC vs name fs xs,BX cells y/\¬gI y
 |[],[],p,_,_,_,_=>⟨rfl,by simp[dC]⟩
 |f::fs,x::xs,p,T,Z,h,AM=>by
  simp only[bI,Ds]at Z;simp only[nx]at AM;unfold iU at h;cases A6:mn v.ty f with
  |none=>rw[A6]at h;simp at h
  |some q=>
   rw[A6]at h;simp only at h;split at h
   .simp at h
   .split at h
    .simp at h
    .obtain⟨A4,AN⟩:=bM.1 h;obtain⟨i1,i2⟩:=Tu M H fs xs (p++[f]) (by simpa using T) Z.2 AN (by omega);obtain⟨_,q2,j,q3,AT⟩:=qM M H A6;obtain⟨AU,AV,AW⟩:=nh I O M H;have A3:fW cells (eH vs name f).1 1=true:=mu (by rw[q3];omega) (by omega) (by rw[q3];omega);obtain⟨A5,AO⟩:=Qg (ex:=false) I O Z.1 (sJ.1 A4).1 (by omega) A3;have e:dC vs name (f::fs) (x::xs)=((ai vs x).1++[ins 6 (eH vs name f).1 0 0 0])++dC vs name fs xs:=by simp[dC]
     rw[e];constructor
     .rw[dX,A5];exact i1
     .intro y D;rcases ada.1 D with D|D
      .exact AO y D
      .exact i2 y D
 |[],_::_,_,T,_,_,_=>by simp at T
 |_::_,[],_,T,_,_,_=>by simp at T
end
def sN{vs:List Vr}{J:Bool}:∀{cs:List Ex}{l:List (List Sm)},cs.length<=l.length->(fj vs J cs l).1=0->∀x∈cs,(ew vs x 2).1=0
 |c::cs,b::r,A1,h,x,D=>by
  obtain⟨Y,Z⟩:=bM.1 h;obtain⟨_,A5⟩:=bM.1 Z;rcases ac4.1 D with rfl|D
  .exact Y
  .exact sN (by simpa using A1) A5 x D
 |_::_,[],A1,_,_,_=>by simp at A1
section
variable {vs:List Vr} {cells:Int} (T:∀v∈vs,dr v=true) (O:bW vs<=cells)
include T O
mutual
theorem ae5(J:Bool):∀(s:Sm)(c:Int),j9 s=true->(lA vs J s).1=0->jE s<=64->0<=c->(b8 vs s c).2<=cells->Fg cells J (b8 vs s c).1
 | .mk op name to val conds A6 fields blocks line,c,M,h,I,U,H=>by
  simp only[j9,Ds,ac2]at M;obtain⟨Ah,Ai,AA,AC,A3,A7,Aj,Ak,A8⟩:=M;have AB:(op=1\/op=3\/op=5\/op=6)->bm val=true:=by
   intro Y;rw[ac1 Y]at AC;simp only[Ds]at AC;exact AC.2
  unfold lA at h;unfold jE at I;unfold b8 at H⊢;by_cases Y:op=1
  .subst Y;rw[ac1 rfl]at h;rw[ac1 rfl]at AA;simp only[Ds,ac2]at AA;simp only[ad7]at I⊢;exact anv T O AA.1 AA.2 (AB (.inl rfl)) h I
  .rw[aaf Y]at h I;simp only[aaf Y]at H⊢;by_cases Z:op=2
   .subst Z;rw[ac1 rfl]at h I;simp only[ad7]at H⊢;have V:dj 2 conds.length A6.length fields.length blocks.length=true:=A7;simp[dj]at V;refine NP _ _ ?_ (C4 J conds blocks c A8 h (by omega) U H);intro t AD;obtain⟨x,D,rfl⟩:=adk.1 AD;exact Qf T O ((fT _).1 A3 x D) (sN (by omega) h x D) (Ts (by omega) x D)
   .rw[aaf Z]at h I;simp only[aaf Z]at H⊢;by_cases A5:op=3
    .subst A5;rw[ac1 rfl]at h I;simp only[ad7]at H⊢;obtain⟨q1,q2⟩:=bM.1 h;have hm:=ng (vs:=vs) blocks (c+1);have AL:fW cells c 1=true:=mu U (by omega) (by omega);refine Fg.jn (zb T O (Qg (ex:=J) T O (AB (.inr (.inl rfl))) (sJ.1 q1).1 (by omega) AL)) ?_;refine NP _ _ ?_ (C4 J [] blocks (c+1) A8 q2 (by omega) (by omega) H);intro t AD;obtain⟨l,A1,rfl⟩:=adk.1 AD;exact ae4 O AL l
    .rw[aaf A5]at h I;simp only[aaf A5]at H⊢;by_cases AE:op=4
     .subst AE;rw[ac1 rfl]at h I;simp only[ad7]at H⊢;have V:dj 4 conds.length A6.length fields.length blocks.length=true:=A7;simp[dj]at V;obtain⟨AR,_,_,AS⟩:=V;cases A0:bj vs name with
      |none=>rw[A0]at h;simp at h
      |some v=>
       rw[A0]at h;simp only at h;split at h
       .simp at h
       .split at h
        .simp at h
        .rename_i g2;obtain⟨q1,q2⟩:=bM.1 h;have hm:=MH (vs:=vs) blocks (c+2);have AM:=u4 T O A0 (λe=>g2 (.inl e)) (by omega);have AT:fW cells c 1=true:=mu U (by omega) (by omega);have AN:fW cells (c+1) 1=true:=mu (by omega) (by omega) (by omega);have AU:fW cells c 2=true:=mu U (by omega) (by omega);refine Fg.jn ?_ (aiK AM AU AN (K2 blocks (c+2) A8 q2 AS (by omega) (by omega) H));obtain⟨x,y,z,rfl⟩:∃x y z,conds=[x,y,z]:=by
          match conds,AR with
          |[x,y,z],_=>exact⟨x,y,z,rfl⟩
         obtain⟨AV,AF⟩:=bM.1 q1;obtain⟨AF,AG⟩:=bM.1 AF;obtain⟨AG,_⟩:=bM.1 AG;simp only[bI,Ds]at A3;simp only[iF,Int.zero_add,Int.reduceAdd]at I;obtain⟨⟨f,i1,_⟩,_,_,i4⟩:=sL T O x [] A3.1 (sJ.1 AV).1 (by simp;omega);obtain⟨⟨g,AW,_⟩,_,_,AX⟩:=sL T O y [f] A3.2.1 (sJ.1 AF).1 (by simp;omega);obtain⟨⟨k,AY,_⟩,_,_,AZ⟩:=sL T O z [f,g] A3.2.2.1 (sJ.1 AG).1 (by simp;omega);refine zb T O ⟨?_,?_⟩
         .simp only[gO];rw[dX,dX,i1];simp only[aeg,ad8];rw[dX,AW];simp only[ahy,aeg,ad8];rw[AY];have t1:=Fa [f,g] k;have t2:=Fa [f] g;have t3:=Fa [] f;simp only[ahy,aeg]at t1 t2 t3;simp[cV,cM,ins,t1,t2,t3]
         .intro a A2;simp only[gO,ada,ac4,adL,apQ]at A2;rcases A2 with (A2|A2|A2)|rfl|rfl|rfl
          .exact y9 (i4 a A2)
          .exact y9 (AX a A2)
          .exact y9 (AZ a A2)
          .exact⟨.inr ⟨by simp[dH,ins,AN],by simp[ins]⟩,by simp[gI,ins]⟩
          .exact⟨.inr ⟨by simp[dH,ins,AT],by simp[ins]⟩,by simp[gI,ins]⟩
          .exact⟨.inr ⟨by simp[dH,ins,AM],by simp[ins]⟩,by simp[gI,ins]⟩
     .rw[aaf AE]at h I;simp only[aaf AE]at H⊢;by_cases AH:op=5
      .subst AH;rw[ac1 rfl]at h;rw[ac1 (.inl rfl)]at I;simp only[ad7]at H⊢;have V:dj 5 conds.length A6.length fields.length blocks.length=true:=A7;simp[dj]at V;obtain⟨q1,q2⟩:=bM.1 h;exact abG (Qf T O (AB (.inr (.inr (.inl rfl)))) q1 (by omega)) (K2 blocks c A8 q2 V.2.2.2 (by omega) U H)
      .rw[aaf AH]at h;simp only[aaf AH]at H⊢;by_cases AI:op=6
       .subst AI;rw[ac1 rfl]at h;rw[ac1 (.inr rfl)]at I;simp only[ad7]at H⊢;have V:dj 6 conds.length A6.length fields.length blocks.length=true:=A7;simp[dj]at V;obtain⟨q1,q2⟩:=bM.1 h;refine aiJ (Qf T O (AB (.inr (.inr (.inr rfl)))) q2 (by omega)) (K2 blocks c A8 q1 V.2.2.2 (by omega) U H) ?_;match blocks,V.2.2.2 with
        |[b],_=>exact V3 vs b c
       .rw[aaf AI]at h;rw[aaf (by omega)]at I;simp only[aaf AI]at H⊢;by_cases AJ:op=7
        .subst AJ;rw[ac1 rfl]at h;simp only[ad7]at⊢;split at h
         .rename_i A_;subst A_;refine⟨aar _,by simp[cV,cM,ins,iI],?_,?_,?_⟩
          .intro x D;simp at D;subst D;exact .inl (.inl rfl)
          .intro i x D AK A9;cases i with
           |zero=>simp at D;subst D;simp[ins]at A9
           |succ i=>simp at D
          .intro x D AK A9;simp at D;subst D;exact⟨rfl,.inr ⟨rfl,rfl⟩⟩
         .simp at h
        .rw[aaf AJ]at h;simp only[aaf AJ]at⊢;by_cases AO:op=8
         .subst AO;simp only[ad7];refine⟨aar _,by simp[cV,cM,ins,iI],?_,?_,?_⟩
          .intro x D;simp at D;subst D;exact .inl (.inl rfl)
          .intro i x D AK A9;cases i with
           |zero=>simp at D;subst D;simp[ins]at A9
           |succ i=>simp at D
          .intro x D AK A9;simp at D;subst D;exact⟨rfl,.inl rfl⟩
         .have Aa:op=9:=by omega
          subst Aa;rw[ac1 rfl]at h;rw[aaf (by omega)]at I;simp only[aaf AO];have V:dj 9 conds.length A6.length fields.length blocks.length=true:=A7;simp[dj]at V;cases A0:bj vs name with
          |none=>rw[A0]at h;simp at h
          |some v=>
           rw[A0]at h;simp only at h;split at h
           .simp at h
           .rename_i g1;have Ab:=eI A0;obtain⟨i1,i2⟩:=Tu T O A0 (by omega) fields conds [] V.1 A3 h I;obtain⟨Ad,Ae,Af⟩:=nh T O A0 (by omega);refine zb T O ⟨?_,?_⟩
            .rw[dX,i1];simp[cV,cM,ins,iI]
            .intro y A4;rcases ada.1 A4 with A4|A4
             .exact i2 y A4
             .simp at A4;subst A4;refine⟨.inr ⟨?_,by simp[ins]⟩,by simp[gI,ins]⟩;rw[Ab];have Ag:fW cells (bu vs name).1 (dQ v.ty).length=true:=mu Ad (by omega) Ae;simp[dH,ins,DN,Ag];exact ahl Af
theorem zc(J:Bool):∀(l:List Sm)(c:Int),eA l=true->(fa vs J l).1=0->bJ l<=64->0<=c->(ag vs l c).2<=cells->Fg cells J (ag vs l c).1
 |[],c,_,_,_,_,_=>jz.plain rfl (by simp[ag]) (by simp[ag]) (aar _)
 |x::r,c,M,h,I,U,H=>by
  simp only[eA,Ds]at M;simp only[bJ]at I;obtain⟨Y,Z⟩:=bM.1 h;simp only[ag]at H⊢;have AP:=Ac (vs:=vs) x c;have AQ:=gx (vs:=vs) r (b8 vs x c).2;have i1:=ae5 J x c M.1 Y (by omega) U (by omega);have i2:=zc J r (b8 vs x c).2 M.2 Z (by omega) (by omega) H;have tk:Fg cells J [ins 11 0 0 0 0]:=jz.plain (by rw[HR];rfl) (λx D=>by simp at D;subst D;exact sM.1) (λx D=>by simp at D;subst D;exact (sM (cells:=cells)).2) (aar _);exact Fg.jn (Fg.jn tk i1) i2
theorem C4(J:Bool):∀(cs:List Ex)(l:List (List Sm))(c:Int),cu l=true->(fj vs J cs l).1=0->cS l<=64->0<=c->(ay vs l c).2<=cells->∀b∈(ay vs l c).1,Fg cells J b
 |_,[],c,_,_,_,_,_,b,A'=>by simp[ay]at A'
 |[],x::r,c,M,h,I,U,H,b,A'=>by
  simp only[cu,Ds]at M;simp only[cS]at I;obtain⟨Y,Z⟩:=bM.1 h;simp only[ay]at H A';have AP:=gx (vs:=vs) x c;have AQ:=ng (vs:=vs) r (ag vs x c).2;have i1:=zc J x c M.1 Y (by omega) U (by omega);have i2:=C4 J [] r (ag vs x c).2 M.2 Z (by omega) (by omega) H;rcases ac4.1 A' with rfl|A'
  .exact i1
  .exact i2 b A'
 |_::cs,x::r,c,M,h,I,U,H,b,A'=>by
  simp only[cu,Ds]at M;simp only[cS]at I;obtain⟨_,h⟩:=bM.1 h;obtain⟨Y,Z⟩:=bM.1 h;simp only[ay]at H A';have AP:=gx (vs:=vs) x c;have AQ:=ng (vs:=vs) r (ag vs x c).2;have i1:=zc J x c M.1 Y (by omega) U (by omega);have i2:=C4 J cs r (ag vs x c).2 M.2 Z (by omega) (by omega) H;rcases ac4.1 A' with rfl|A'
  .exact i1
  .exact i2 b A'
theorem K2:∀(l:List (List Sm))(c:Int),cu l=true->(uq vs l).1=0->l.length=1->cS l<=64->0<=c->(lJ vs l c).2<=cells->Fg cells true (lJ vs l c).1
 |[b],c,M,h,_,I,U,H=>by
  simp only[cu,amr]at M;simp only[cS]at I;exact zc true b c M h (by omega) U H
 |[],_,_,_,A1,_,_,_=>by simp at A1
 |_::_::_,_,_,_,A1,_,_,_=>by simp at A1
end
end
def ze{op a b n m:Int}(h:op<9\/10<op):Flat [ins op a b n m]:=Flat.one (by simp[ins];omega)
section
variable {vs:List Vr}
mutual
theorem jV:∀x:Ex,bm x=true->(aE vs x).e=0->Flat (ai vs x).1
 | .mk op n name field sub line,D,h=>by
  have A5:=Qa D;simp only[bm,Ds,ac2]at D;obtain⟨_,Y,_,_,M⟩:=D;unfold aE at h;unfold ai;by_cases O:op=1\/op=2
  .simp only[ac1 O];exact ze (by omega)
  .rw[aaf O]at h⊢;by_cases T:op=3\/op=4\/op=5
   .rw[ac1 T]at h;cases H:bj vs name with
    |none=>rw[H]at h;simp[du]at h
    |some v=>
     rw[H]at h;simp only at h;have U:(bu vs name).2=v:=eI H;by_cases I:op=5
     .rw[ac1 I]at h;rw[aaf (by omega),ac1 I];split at h
      .simp[du]at h
      .rename_i A6;cases J:mn v.ty field with
       |none=>rw[J]at h;simp[du]at h
       |some p=>
        obtain⟨_,hm,j,A7,_⟩:=JF (i:=0) J;have Z:=qM H (by omega) J;have A8:=P3 hm;have:(eH vs name field).2=p:=by
         obtain⟨_,_,_,_⟩:=Z;simp_all
        simp only[this];exact ze (by omega)
     .rw[aaf I]at h;split at h
      .simp[du]at h
      .rename_i A';simp only[alp,Int.not_lt]at A';by_cases V:op=4
       .rw[ac1 V]at h;rw[aaf (by omega),aaf I,ac1 V];simp only[U];refine Flat.app (anw sub v.ty M h) (ze (by omega))
       .rw[ac1 (by omega)];simp only[U];exact ze (by omega)
   .rw[aaf T]at h;rw[aaf (by omega),aaf (by omega),aaf (by omega)];exact Flat.app (anx sub op line M h (by rw[Y];unfold fe;split<;>(try split)<;>omega)) (ze (by omega))
theorem anw:∀(l:List Ex)(t:Int),bI l=true->(BN vs t l).e=0->Flat (oQ vs l)
 |[],t,_,_=>by unfold oQ;exact Flat.nil
 |x::r,t,D,h=>by
  simp only[bI,Ds]at D;unfold oQ;unfold BN at h;split at h
  .rename_i he;exact absurd h he
  .rename_i he;exact jV x D.1 (by simpa using he)
theorem anx:∀(l:List Ex)(op line:Int),bI l=true->(xp vs op line l).e=0->l.length<=2->Flat (gO vs l).1
 |[],_,_,_,_,_=>by unfold gO;exact Flat.nil
 |[x],op,line,D,h,_=>by
  simp only[bI,amr]at D;unfold xp at h;unfold gO;exact jV x D (ky h).1
 |[x,y],op,line,D,h,_=>by
  simp only[bI,amr,Ds]at D;unfold xp at h;obtain⟨A0,A1,_⟩:=ky h;unfold gO gO;exact Flat.app (jV x D.1 A0) (jV y D.2 A1)
 |x::y::z::r,_,_,_,_,A2=>by simp at A2
end
theorem fM{x:Ex}{t:Int}(h:(ew vs x t).1=0):(aE vs x).e=0/\(aE vs x).t=t:=by
 unfold ew at h;split at h
 .rename_i he;exact absurd h he
 .rename_i he;split at h
  .simp at h
  .rename_i A3;exact⟨by simpa using he,by simpa using A3⟩
theorem JJ(c:Int):∀l:List Int,Flat (dy c l)
 |[]=>by unfold dy;exact Flat.nil
 |[_]=>by unfold dy;exact Flat.nil
 |a::b::r=>by
  unfold dy;exact Flat.cons (by simp[ins]) (Flat.cons (by simp[ins]) (JJ c r))
end
def jf(ex:Bool)(x:ar):Prop:=(x.op=10->0<=x.a)/\(x.op=9->0<=x.a\/x.a= -2\/(ex=true/\x.a= -1))
def Jf(ex:Bool)(l:List ar):Prop:=∀x∈l,jf ex x
section
variable {ex:Bool}
end
def HS{vs:List Vr}{name:Tx}:∀(fs:List Tx)(xs:List Ex),bI xs=true->(∀x∈xs,(aE vs x).e=0)->Flat (dC vs name fs xs)
 |[],xs,_,_=>by cases xs<;>simp only[dC]<;>exact Flat.nil
 |_::_,[],_,_=>by simp only[dC];exact Flat.nil
 |f::fs,x::xs,D,h=>by
  simp only[bI,Ds]at D;simp only[dC];exact Flat.app (jV x D.1 (h x (by simp))) (Flat.cons (by simp[ins]) (HS fs xs D.2 (λy A4=>h y (by simp[A4]))))
inductive Vl where
 |v (n:Int) (t:Bool)
 |f (e:Int)
 deriving DecidableEq
structure Mc where
 cells:List Int
 fuel:Nat
inductive Hw where
 |on
 |lv
 |rt
 |ft (e:Int)
 deriving DecidableEq
abbrev Rr:=Hw×Mc
def bR(q:Rr)(f:Mc->Rr):Rr:=
 match q with
 |(.on,s)=>f s
 |q=>q
def vR(q:Vl)(s:Mc)(f:Int->Rr):Rr:=
 match q with
 | .f e=>(.ft e,s)
 | .v n _=>f n
def vV(q:Vl)(f:Int->Vl):Vl:=
 match q with
 | .f e=>.f e
 | .v n _=>f n
def iL(F:Mc->Rr)(s:Mc):Rr:=if s.fuel=0 then (.ft 4,s)else F ⟨s.cells,s.fuel-1⟩
def jB(C:List Int)(k:Int):Int:=C[k.toNat]?.getD 0
def zh(C:List Int)(at_ t:Int):Int:=if t=2 then cg (decide (jB C at_≠0))else jB C at_
def eP(C:List Int)(k n:Int):List Int:=C.set k.toNat n
def BY(op:Int)(l:List Int)(t:Bool):Int×Bool×Int:=
 match l with
 |[a]=>jl op a t
 |[a,b]=>gR op a b t
 |_=>hU
def ou(op:Int)(l:List Int)(t:Bool):Vl:=if (BY op l t).2.2=0 then .v (BY op l t).1 (BY op l t).2.1 else .f (BY op l t).2.2
def A4(C:List Int)(at_:Int)(v:Vr)(n:Int):Vl:=if n<v.lo\/v.hi<n then .f 3 else .v (zh C (at_+(n-v.lo)) v.ty) (decide (v.ty=2))
mutual
def bN(vs:List Vr)(C:List Int):Ex->Vl
 | .mk op n name field sub _=>
  if op=1 then .v n false
  else if op=2 then .v n true
  else if op=3 then .v (zh C (bu vs name).1 (bu vs name).2.ty) (decide ((bu vs name).2.ty=2))
  else if op=4 then vV (sO vs C sub) λk=>A4 C (bu vs name).1 (bu vs name).2 k
  else if op=5 then .v (zh C (eH vs name field).1 (eH vs name field).2.ty) (decide ((eH vs name field).2.ty=2))
  else
   (match (lu vs C sub false).2 with
    | .v _ t=>ou op (lu vs C sub false).1 t
    | .f e=>.f e)
def sO(vs:List Vr)(C:List Int):List Ex->Vl
 |[]=>.f (-2)
 |x::_=>bN vs C x
def lu(vs:List Vr)(C:List Int):List Ex->Bool->List Int×Vl
 |[],t=>([],.v 0 t)
 |x::r,_=>
  (match bN vs C x with
   | .f e=>([],.f e)
   | .v n t=>(n::(lu vs C r t).1,(lu vs C r t).2))
end
def A5(C:List Int)(fuel:Nat)(at_:Int)(v:Vr)(n x:Int):Rr:=if n<v.lo\/v.hi<n then (.ft 3,⟨C,fuel⟩)else (.on,⟨eP C (at_+(n-v.lo)) x,fuel⟩)
def qt(vs:List Vr)(to val:Ex)(s:Mc):Rr:=
 if bQ to=3 then vR (bN vs s.cells val) s λn=>(.on,⟨eP s.cells (bu vs (eh to)).1 n,s.fuel⟩)
 else vR (sO vs s.cells (di to)) s λk=>vR (bN vs s.cells val) s λn=>A5 s.cells s.fuel (bu vs (eh to)).1 (bu vs (eh to)).2 k n
def ko(vs:List Vr)(name:Tx):List Tx->List Ex->Mc->Rr
 |f::fs,x::xs,s=>vR (bN vs s.cells x) s λn=>ko vs name fs xs ⟨eP s.cells (eH vs name f).1 n,s.fuel⟩
 |_,_,s=>(.on,s)
def tO(C:List Int)(at_ k:Int):List Int:=C.take at_.toNat++ie k ((C.drop at_.toNat).take (dQ k).length)++C.drop (at_.toNat+(dQ k).length)
def nH(vs:List Vr)(name:Tx)(fs:List Tx)(xs:List Ex)(s:Mc):Rr:=bR (ko vs name fs xs s) λD=>(.on,⟨tO D.cells (bu vs name).1 (bu vs name).2.ty,D.fuel⟩)
def eX(q:Rr):Rr:=if q.1=.lv then (.on,q.2)else q
def gW(n:Int):List Int->Bool
 |a::b::r=>decide (a<=n/\n<=b)||gW n r
 |_=>false
def wC(c:List Int->Vl)(b:Mc->Rr):Nat->Mc->Rr
 |0,s=>(.ft 4,s)
 |m+1,s=>iL (λs=>vR (c s.cells) s λk=>if k=0 then (.on,s)else bR (b s) λD=>wC c b m D) s
def wD(c:List Int->Vl)(b:Mc->Rr):Nat->Mc->Rr
 |0,s=>(.ft 4,s)
 |m+1,s=>bR (b s) λs=>iL (λs=>vR (c s.cells) s λk=>if k=0 then wD c b m s else (.on,s)) s
def GZ(n to by_:Int):Bool:=decide (0<=by_/\to<n)||decide (by_<0/\n<to)
def xr(at_ to by_:Int)(b:Mc->Rr):Nat->Mc->Rr
 |0,s=>(.ft 4,s)
 |m+1,s=>iL (λs=>if GZ (jB s.cells at_) to by_=true then (.on,s)else bR (b s) λs=>vR (ou 8 [jB s.cells at_,by_] false) s λn=>xr at_ to by_ b m ⟨eP s.cells at_ n,s.fuel⟩) s
def wZ(vs:List Vr)(name:Tx)(conds:List Ex)(b:Mc->Rr)(s:Mc):Rr:=
 match conds with
 |[x,y,z]=>vR (bN vs s.cells x) s λfrom_=>vR (bN vs s.cells y) s λH=>vR (bN vs s.cells z) s λby_=>xr (bu vs name).1 H by_ b (s.fuel+1) ⟨eP s.cells (bu vs name).1 from_,s.fuel⟩
 |_=>(.on,s)
mutual
def iw(vs:List Vr):Sm->Mc->Rr
 | .mk op name to val conds I fields blocks _,s=>iL (λs=>
  if op=1 then qt vs to val s
  else if op=2 then gJ vs blocks conds s
  else if op=3 then vR (bN vs s.cells val) s λn=>gK vs blocks n I s
  else if op=4 then eX (wZ vs name conds (λq=>lR vs blocks q) s)
  else if op=5 then eX (wC (λC=>bN vs C val) (λq=>lR vs blocks q) (s.fuel+1) s)
  else if op=6 then eX (wD (λC=>bN vs C val) (λq=>lR vs blocks q) (s.fuel+1) s)
  else if op=7 then (.lv,s)
  else if op=8 then (.rt,s)
  else nH vs name fields conds s) s
def bX(vs:List Vr):List Sm->Mc->Rr
 |[],s=>(.on,s)
 |x::r,s=>bR (iw vs x s) λD=>bX vs r D
def gJ(vs:List Vr):List (List Sm)->List Ex->Mc->Rr
 |[],_,s=>(.on,s)
 |b::_,[],s=>bX vs b s
 |b::bs,c::cs,s=>vR (bN vs s.cells c) s λn=>if n=0 then gJ vs bs cs s else bX vs b s
def gK(vs:List Vr):List (List Sm)->Int->List (List Int)->Mc->Rr
 |[],_,_,s=>(.on,s)
 |b::_,_,[],s=>bX vs b s
 |b::bs,n,l::ls,s=>if gW n l=true then bX vs b s else gK vs bs n ls s
def lR(vs:List Vr):List (List Sm)->Mc->Rr
 |[],s=>(.on,s)
 |b::_,s=>bX vs b s
end
def kG(p:Pg)(C:List Int)(fuel:Nat):List Int×Int×Nat:=
 match bX p.vars p.body ⟨C,fuel⟩with
 |(.ft e,s)=>(s.cells,e,s.fuel)
 |(_,s)=>(s.cells,0,s.fuel)
section
variable {vs:List Vr} {C:List Int}
theorem qu(x:Ex)(r:List Ex)(t0:Bool):lu vs C (x::r) t0=(match bN vs C x with
 | .f e=>([],.f e)
 | .v n t=>(n::(lu vs C r t).1,(lu vs C r t).2)):=by rw[lu]<;>cases bN vs C x<;>rfl
theorem MI:∀(l Z:List Ex)(t:Bool),l.length=Z.length->(∀(i:Nat)(x y:Ex),l[i]?=some x->Z[i]?=some y->bN vs C x=bN vs C y)->lu vs C l t=lu vs C Z t
 |[],[],_,_,_=>rfl
 |x::r,y::A5,t,D,h=>by
  have J:=h 0 x y rfl rfl;have ih:=λt=>MI r A5 t (by simpa using D) (λi a b A6 A7=>h (i+1) a b (by simpa using A6) (by simpa using A7));rw[qu,qu,J];cases bN vs C y with
  |f e=>rfl
  |v n t=>simp only[ih]
 |[],_::_,_,h,_=>by simp at h
 |_::_,[],_,h,_=>by simp at h
theorem Tv{k:Int}(h:0<=k/\k<=9223372036854775807):ou 6 [k] false=.v (z7 k) false:=by
 rw[BO (by omega)];unfold ou BY jl;simp only[ahs,adN,ad7];have e:mm (0-k)=(0-k,true):=by
  unfold mm;rw[ac1 (by omega)]
 rw[e];simp[px]
theorem MJ{y:Ex}{p:Int×Bool}(h:kQ y=some p):(bQ y=1/\p=(iS y,false))\/(bQ y=2/\p=(iS y,true))\/(bQ y=6/\∃z,di y=[z]/\bQ z=1/\p=(z7 (iS z),false)):=by
 unfold kQ at h;by_cases H:bQ y=1
 .rw[ac1 H]at h;cases h;exact .inl ⟨H,rfl⟩
 .rw[aaf H]at h;by_cases M:bQ y=2
  .rw[ac1 M]at h;cases h;exact .inr (.inl ⟨M,rfl⟩)
  .rw[aaf M]at h;by_cases A':bQ y=6
   .rw[ac1 A']at h;refine .inr (.inr ⟨A',?_⟩);generalize di y=l at*;match l,h with
    |[z],h=>
     by_cases O:bQ z=1
     .simp only[ac1 O,adl]at h;exact⟨z,rfl,O,h.symm⟩
     .simp[aaf O]at h
    |[],h=>simp at h
    |_::_::_,h=>simp at h
   .rw[aaf A']at h;cases h
theorem YX{y:Ex}(I:bm y=true)(D:dt y=true)(h:bQ y=1):0<=iS y/\iS y<=9223372036854775807:=by
 obtain⟨op,n,name,field,sub,line⟩:=y;simp only[kP]at h;subst h;simp only[bm,dt,Ds,ac2,ahI,aed]at I D;simp only[wj];have H:¬n<0:=λhh=>I.1 (.inl ⟨trivial,hh⟩);omega
theorem K3{y:Ex}{p:Int×Bool}(h:kQ y=some p)(I:bm y=true)(D:dt y=true):bN vs C y=.v p.1 p.2:=by
 obtain⟨H,rfl⟩|⟨H,rfl⟩|⟨H,z,O,M,rfl⟩:=MJ h<;>obtain⟨op,n,name,field,sub,line⟩:=y<;>simp only[kP]at H<;>subst H
 .simp[bN]
 .simp[bN]
 .simp only[nZ]at O;subst O;simp only[bm,bI,Ds]at I;simp only[dt,da,Ds]at D;have e:=Tv (YX I.2.2.2.2.1 D.2.1 M);obtain⟨gR,k,AK,AL,AM,AN⟩:=z;simp only[kP]at M;subst M;simp only[wj]at e⊢;simp[bN,lu,e]
theorem aiM{y:Ex}{p:Int×Bool}(h:kQ y=some p)(I:bm y=true)(D:dt y=true): -9223372036854775808<=p.1/\p.1<=9223372036854775807:=by
 obtain⟨H,rfl⟩|⟨H,rfl⟩|⟨H,z,O,M,rfl⟩:=MJ h<;>obtain⟨op,n,name,field,sub,line⟩:=y<;>simp only[kP]at H<;>subst H
 .simp only[dt,Ds,ac2]at D;exact D.1
 .simp only[dt,Ds,ac2]at D;exact D.1
 .simp only[nZ]at O;subst O;simp only[bm,bI,Ds]at I;simp only[dt,da,Ds]at D;have:=YX I.2.2.2.2.1 D.2.1 M;simp only
  rw[BO (by omega)];omega
theorem abH{n:Int}{t:Bool}{line:Int}(h:t=false-> -9223372036854775807<=n/\n<=9223372036854775807):bN vs C (nG n t line)=.v n t:=by
 unfold nG;cases t with
 |true=>rw[ac1 rfl];simp[bN]
 |false=>
  have h:=h rfl;rw[aaf (by decide)];by_cases J:0<=n
  .rw[ac1 J];simp[bN]
  .rw[aaf J];have e:=BO (n:=n) (by omega);have U:ou 6 [z7 n] false=.v (z7 (z7 n)) false:=Tv (by omega);have A8:z7 (z7 n)=n:=by rw[BO (n:=z7 n) (by omega)];omega
   simp[bN,lu,U,A8]
theorem abI:∀{l:List Ex}{ps:List (Int×Bool)},qK l=some ps->(∀y∈l,bm y=true/\dt y=true)->∀op,E6 op ps≠none->
 ∃t,lu vs C l false=(ps.map (·.1),.v 0 t)/\E6 op ps=some (BY op (ps.map (·.1)) t):=by
 intro l ps h T op A0;obtain⟨A2,V⟩:=F6 h;match ps,l,A2 with
 |[a],[x],_=>
  have e:=K3 (vs:=vs) (C:=C) (V 0 x a rfl rfl) (T x (by simp)).1 (T x (by simp)).2;exact⟨a.2,by rw[qu,e];simp[lu],rfl⟩
 |[a,b],[x,y],_=>
  have e:=K3 (vs:=vs) (C:=C) (V 0 x a rfl rfl) (T x (by simp)).1 (T x (by simp)).2;have U:=K3 (vs:=vs) (C:=C) (V 1 y b rfl rfl) (T y (by simp)).1 (T y (by simp)).2;have A9:a.2=b.2:=by
   apply aiL;intro AA;exact A0 (by simp[E6,AA])
  refine⟨b.2,?_,?_⟩
  .rw[qu,e];simp only[qu,U];simp[lu]
  .simp[E6,A9,BY]
 |[],[],_=>exact absurd rfl A0
 |a::b::c::r,l,_=>exact absurd rfl A0
theorem ae6{x:Ex}(I:bm x=true)(D:dt x=true):bN vs C (nb x)=bN vs C x:=by
 unfold nb;split
 .rfl
 .rename_i AB;split
  .rfl
  .rename_i l A1;split
   .rfl
   .rename_i r Y;split
    .rfl
    .rename_i A3;obtain⟨op,n,name,field,sub,line⟩:=x;simp only[alp,Int.not_lt,kP,nZ,PI]at AB A1 Y A3⊢;obtain⟨f1,f2⟩:=qL I;obtain⟨AO,AC⟩:=BQ D;have A4:∀y∈sub,bm y=true/\dt y=true:=λy T=>⟨(fT sub).1 f2 y T,(oq sub).1 AC y T⟩;obtain⟨t,AD,U⟩:=abI (vs:=vs) (C:=C) A1 A4 op (by rw[Y];simp);rw[Y]at U;cases U;have AE:bN vs C (.mk op n name field sub line)=ou op (l.map (·.1)) t:=by
      rw[bN];rw[aaf (by omega),aaf (by omega),aaf (by omega),aaf (by omega),aaf (by omega),AD]
     rw[AE];have AF:∀p∈l, -9223372036854775808<=p.1/\p.1<=9223372036854775807:=by
      intro p AG;obtain⟨A2,V⟩:=F6 A1;obtain⟨i,hi,rfl⟩:=List.getElem_of_mem AG;have AH:i<sub.length:=by omega
      have J:=V i (sub[i]) (l[i]) (by simp[AH]) (by simp[hi]);have hm:=A4 sub[i] (by simp);exact aiM J hm.1 hm.2
     have AI:=YK Y AF;have J:(BY op (l.map (·.1)) t).2.2=0:=by omega
     obtain⟨_,_,g3⟩:=AI J;unfold ou;rw[ac1 J];refine abH λAJ=>?_;have:=A3.2;rw[AJ]at this;simp only[alC]at this;omega
end
section
variable {vs:List Vr}
theorem sP{x:Ex}{t:Int}(h:(ew vs x t).1=0):(aE vs x).e=0/\(aE vs x).t=t:=by
 unfold ew at h;split at h
 .exact absurd h (by assumption)
 .rename_i A7;split at h
  .simp at h
  .rename_i J;exact⟨by simpa using A7,by simpa using J⟩
theorem qv(C:List Int):∀x:Ex,bm x=true->dt x=true->(aE vs x).e=0->bN vs C (dF x)=bN vs C x
 | .mk op n name field sub line,D,H,he=>by
  obtain⟨f1,f2⟩:=qL D;obtain⟨AK,AC⟩:=BQ H;have A3:=uX D he;have AD:∀y∈sub,Kp vs y (dF y):=λy I=>F7 y ((fT sub).1 f2 y I) ((oq sub).1 AC y I) (A3 y I);have ih:∀y∈sub,bN vs C (dF y)=bN vs C y:=λy I=>qv C y ((fT sub).1 f2 y I) ((oq sub).1 AC y I) (A3 y I);have AE:(db sub).length=sub.length:=by rw[lq];simp
  have AL:bm (.mk op n name field (db sub) line)=true:=by
   have AM:bI (db sub)=true:=by
    rw[fT,lq];intro y I;obtain⟨z,A8,rfl⟩:=adk.1 I;exact (AD z A8).1
   simp only[bm,Ds]at D⊢;refine⟨D.1,?_,D.2.2.1,D.2.2.2.1,AM⟩;rw[AE];exact D.2.1
  have AN:dt (.mk op n name field (db sub) line)=true:=by
   simp only[dt,Ds,ac2];refine⟨AK,?_⟩;rw[oq,lq];intro y I;obtain⟨z,A8,rfl⟩:=adk.1 I;exact (AD z A8).2.1
  rw[dF,ae6 AL AN,bN,bN];have J:sO vs C (db sub)=sO vs C sub:=by
   cases sub with
   |nil=>rfl
   |cons y r=>simp only[db,sO];exact ih y (by simp)
  have M:lu vs C (db sub) false=lu vs C sub false:=by
   refine MI _ _ _ AE λi x y A4 I=>?_;rw[lq,adn,I]at A4;cases A4;exact ih y (ac6 I)
  rw[J,M]
termination_by x=>SizeOf.sizeOf x
decreasing_by all_goals (simp_wf;have:=apM I;omega)
theorem ae7{x:Ex}(h:bQ x<6):dF x=.mk (bQ x) (iS x) (eh x) (ic x) (db (di x)) (lQ x):=by
 obtain⟨op,n,name,field,sub,line⟩:=x;simp only[kP]at h;simp[dF,nb,h]
theorem YY(name:Tx):∀(fs:List Tx)(xs:List Ex),bI xs=true->da xs=true->(∀x∈xs,(aE vs x).e=0)->∀s,ko vs name fs (db xs) s=ko vs name fs xs s
 |[],xs,_,_,_,s=>by cases xs<;>rfl
 |f::fs,[],_,_,_,s=>rfl
 |f::fs,x::xs,D,H,Y,s=>by
  simp only[bI,da,Ds]at D H;simp only[db,ko];rw[qv _ x D.1 H.1 (Y x (by simp))];congr 1;funext n;exact YY name fs xs D.2 H.2 (λy I=>Y y (by simp[I])) _
theorem yf{k line:Int}:∀(fs:List Tx)(xs:List Ex)(p:List Tx),xs.length=fs.length->(iU vs k line fs xs p).1=0->∀x∈xs,(aE vs x).e=0
 |[],[],_,_,_,x,A4=>by simp at A4
 |f::fs,x::xs,p,H,h,y,I=>by
  simp only[iU]at h;cases AF:mn k f with
  |none=>rw[AF]at h;simp at h
  |some q=>
   rw[AF]at h;simp only at h;split at h
   .simp at h
   .split at h
    .simp at h
    .obtain⟨J,M⟩:=bM.1 h;rcases ac4.1 I with rfl|I
     .exact (sP J).1
     .exact yf fs xs _ (by simpa using H) M y I
 |[],_::_,_,h,_,_,_=>by simp at h
 |_::_,[],_,h,_,_,_=>by simp at h
theorem YZ{x:Ex}(h:dt x=true):da (di x)=true:=by
 obtain⟨op,n,name,field,sub,line⟩:=x;exact (BQ h).2
theorem Y0{x:Ex}(h:bm x=true):bI (di x)=true:=by
 obtain⟨op,n,name,field,sub,line⟩:=x;exact (qL h).2
theorem abJ{x:Ex}(D:bm x=true)(h:(aE vs x).e=0):∀y∈di x,(aE vs y).e=0:=by
 obtain⟨op,n,name,field,sub,line⟩:=x;exact uX D h
theorem ae8(C:List Int){l:List Ex}(D:bI l=true)(H:da l=true)(Y:∀y∈l,(aE vs y).e=0):sO vs C (db l)=sO vs C l:=by
 cases l with
 |nil=>rfl
 |cons y r=>
  simp only[bI,da,Ds]at D H;simp only[db,sO];exact qv C y D.1 H.1 (Y y (by simp))
theorem aiN{to val:Ex}(U:bQ to=3\/bQ to=4)(ft:bm to=true)(lt:dt to=true)(A9:(aE vs to).e=0)(O:bm val=true)(lv:dt val=true)(AA:(aE vs val).e=0)(s:Mc):qt vs (dF to) (dF val) s=qt vs to val s:=by
 rw[ae7 (by omega)];unfold qt;simp only[kP,BM,nZ];rw[qv _ val O lv AA,ae8 _ (Y0 ft) (YZ lt) (abJ ft A9)];rfl
mutual
theorem ae9(lp:Bool):∀x:Sm,j9 x=true->ka x=true->(lA vs lp x).1=0->∀s,iw vs (ur x) s=iw vs x s
 | .mk op name to val conds AO fields blocks line,D,H,h,s=>by
  have AG:=Qh blocks;have AB:=afa blocks;simp only[ka,Ds]at H;obtain⟨AP,A5,Z,AZ,A'⟩:=H;have A6:=BU D h;rw[ur,iw,iw];congr 1;funext s;cases A6 with
  |Tc U AH A3 ft A9 O AA h=>exact aiN U ft AP A9 O A5 AA _
  |Td U AI V J M AQ T h=>exact AG.1 lp conds V Z T A' h s
  |Tf U O A0 M AQ A_ T h=>
   rw[qv _ val O A5 (sP A0).1];show vR _ _ _=vR _ _ _;congr 1;funext n;exact AG.2 lp AO n T A' h _
  |Tg AR U AI AH A3 Aa Y AS AT AU AV AW AX T A1=>
   simp only[da,Ds]at Z;have A2:=AB (by simp[cu,T]) A' (by simpa [uq]using A1);simp only[db,show ¬((4:Int)=1) by decide,show ¬((4:Int)=2) by decide,show ¬((4:Int)=3) by decide,adN,ad7];simp only[wZ,A2];rw[qv _ _ AS Z.1 (sP AT).1,qv _ _ AU Z.2.1 (sP AV).1,qv _ _ AW Z.2.2.1 (sP AX).1]
  |Th U O A0 T A1=>
   have A2:=AB (by simp[cu,T]) A' (by simpa [uq]using A1);simp only[show ¬((5:Int)=1) by decide,show ¬((5:Int)=2) by decide,show ¬((5:Int)=3) by decide,show ¬((5:Int)=4) by decide,adN,ad7];simp only[A2,λC=>qv C val O A5 (sP A0).1]
  |rep U O A0 T A1=>
   have A2:=AB (by simp[cu,T]) A' (by simpa [uq]using A1);simp only[show ¬((6:Int)=1) by decide,show ¬((6:Int)=2) by decide,show ¬((6:Int)=3) by decide,show ¬((6:Int)=4) by decide,show ¬((6:Int)=5) by decide,adN,ad7];simp only[A2,λC=>qv C val O A5 (sP A0).1]
  |ext=>rfl
  |ret=>rfl
  |Ti AR U AI AH Y V AY Ab h=>
   show nH vs name fields (db conds) _=nH vs name fields conds _;unfold nH;rw[YY name fields conds V Z (yf fields conds [] AY h)]
theorem C5(lp:Bool):∀l:List Sm,eA l=true->gN l=true->(fa vs lp l).1=0->∀s,bX vs (dW l) s=bX vs l s
 |[],_,_,_,s=>rfl
 |x::r,D,H,h,s=>by
  simp only[eA,gN,Ds]at D H;obtain⟨J,M⟩:=bM.1 h;have a:=ae9 lp x D.1 H.1 J s;have b:=C5 lp r D.2 H.2 M;rw[dW,bX,bX,a];congr 1;funext s;exact b s
theorem Qh:∀l:List (List Sm),(∀(lp:Bool)(cs:List Ex),bI cs=true->da cs=true->cu l=true->fJ l=true->(fj vs lp cs l).1=0->∀s,gJ vs (jt l) (db cs) s=gJ vs l cs s)/\
 (∀(lp:Bool)(ls:List (List Int))(n:Int),cu l=true->fJ l=true->(fj vs lp [] l).1=0->∀s,gK vs (jt l) n ls s=gK vs l n ls s)
 |[]=>⟨λ_ _ _ _ _ _ _ s=>rfl,λ_ _ _ _ _ _ s=>rfl⟩
 |b::r=>by
  have AJ:=Qh r;have hm:=λlp=>C5 lp b;refine⟨λlp cs V lc D H h s=>?_,λlp ls n D H h s=>?_⟩
  .simp only[cu,fJ,Ds]at D H;rw[jt];match cs with
   |[]=>
    simp only[fj]at h;obtain⟨J,M⟩:=bM.1 h;exact hm lp D.1 H.1 J s
   |c::cs=>
    simp only[bI,da,Ds]at V lc;simp only[fj]at h;obtain⟨A7,h⟩:=bM.1 h;obtain⟨J,M⟩:=bM.1 h;simp only[db,gJ];rw[qv _ c V.1 lc.1 (sP A7).1,AJ.1 lp cs V.2 lc.2 D.2 H.2 M s,hm lp D.1 H.1 J s]
  .simp only[cu,fJ,Ds]at D H;simp only[fj]at h;obtain⟨J,M⟩:=bM.1 h;rw[jt];match ls with
   |[]=>exact hm lp D.1 H.1 J s
   |l::ls=>
    simp only[gK];rw[AJ.2 lp ls n D.2 H.2 M s,hm lp D.1 H.1 J s]
theorem afa:∀l:List (List Sm),cu l=true->fJ l=true->(uq vs l).1=0->∀s,lR vs (jt l) s=lR vs l s
 |[],_,_,_,s=>rfl
 |b::r,D,H,h,s=>by
  simp only[cu,fJ,Ds]at D H;exact C5 true b D.1 H.1 h s
end
end
def V4{p:Pg}(D:lH p=true)(H:gN p.body=true)(A6:(lB p).1=0)(C:List Int)(fuel:Nat):kG (MB p) C fuel=kG p C fuel:=by
 simp only[lH,Ds]at D;unfold lB at A6;unfold kG MB;rw[C5 false p.body D.2.2.2 H (bM.1 A6).2]
section
variable {vs:List Vr}
def BZ(r:Int×Bool×Int):Prop:=r.2.2≠4
theorem adS{op:Int}{l:List Int}{t:Bool}{e:Int}(h:ou op l t=.f e):e≠4:=by
 have A2:BZ hU:=by simp[BZ,hU]
 have A':∀a b,BZ (a,b,0):=λa b=>by simp[BZ]
 have A9:∀p,BZ (px p):=by
  intro p;unfold px;split<;>simp[BZ]
 have AI:∀p,BZ (oO p):=by
  intro p;unfold oO;repeat' split
  all_goals simp[BZ]
 have T:∀op a t,BZ (jl op a t):=by
  intro op a t;unfold jl;repeat' split
  all_goals first|exact A2|exact A' _ _|exact A9 _
 have AJ:∀(c:Prop)[Decidable c](x y:Int×Bool×Int),BZ x->BZ y->BZ (if c then x else y):=by
  intro c _ x y I AK;split
  .exact I
  .exact AK
 have U:∀op a b t,BZ (gR op a b t):=by
  intro op a b t;unfold gR wX xo;repeat' (first|exact A2|exact A' _ _|exact A9 _|exact AI _|apply AJ)
 unfold ou at h;split at h
 .cases h
 .cases h;unfold BY;split
  .exact T _ _ _
  .exact U _ _ _ _
  .exact A2
theorem aiP{C:List Int}{a:Int}{v:Vr}{n e:Int}(h:A4 C a v n=.f e):e≠4:=by
 unfold A4 at h;split at h
 .cases h;decide
 .cases h
mutual
theorem sh(C:List Int):∀(x:Ex)(e:Int),bN vs C x=.f e->e≠4
 | .mk op n name field sub line,e,h=>by
  have AL:=adT C sub;have AM:=Y2 C sub;rw[bN]at h;by_cases T:op=1
  .rw[ac1 T]at h;cases h
  rw[aaf T]at h;by_cases U:op=2
  .rw[ac1 U]at h;cases h
  rw[aaf U]at h;by_cases AA:op=3
  .rw[ac1 AA]at h;cases h
  rw[aaf AA]at h;by_cases AB:op=4
  .rw[ac1 AB]at h;cases I:sO vs C sub with
   |f e'=>rw[I]at h;cases h;exact AL _ I
   |v k t=>rw[I]at h;exact aiP h
  rw[aaf AB]at h;by_cases AC:op=5
  .rw[ac1 AC]at h;cases h
  rw[aaf AC]at h;cases I:(lu vs C sub false).2 with
  |f e'=>rw[I]at h;cases h;exact AM _ _ I
  |v k t=>rw[I]at h;exact adS h
theorem adT(C:List Int):∀(l:List Ex)(e:Int),sO vs C l=.f e->e≠4
 |[],e,h=>by simp only[sO]at h;cases h;decide
 |x::r,e,h=>by
  simp only[sO]at h;exact sh C x e h
theorem Y2(C:List Int):∀(l:List Ex)(t:Bool)(e:Int),(lu vs C l t).2=.f e->e≠4
 |[],t,e,h=>by simp[lu]at h
 |x::r,t,e,h=>by
  rw[qu]at h;cases I:bN vs C x with
  |f e'=>rw[I]at h;cases h;exact sh C x _ I
  |v k AN=>rw[I]at h;exact Y2 C r AN e h
end
theorem adU{q:Rr}(f:Mc->Rr)(h:q.1=.on):bR q f=f q.2:=by
 obtain⟨w,s⟩:=q;simp only at h;subst h;rfl
theorem adV{q:Rr}(f:Mc->Rr)(h:q.1≠.on):bR q f=q:=by
 obtain⟨w,s⟩:=q;cases w with
 |on=>exact absurd rfl h
 |_=>rfl
def zi(m:Nat)(s:Mc):Mc:=⟨s.cells,s.fuel+m⟩
structure Rl(m f:Nat)(q O:Rr):Prop where
 out:q.1=.ft 4->q.2.fuel=0
 more:q.1≠.ft 4->O=(q.1,zi m q.2)
 le:q.2.fuel<=f
theorem Rl.bind{m f:Nat}{q O:Rr}(h:Rl m f q O){G A0:Mc->Rr}(AO:∀s,s.fuel<=f->Rl m s.fuel (G s) (A0 (zi m s))):Rl m f (bR q G) (bR O A0):=by
 by_cases V:q.1=.on
 .have e:=h.more (by rw[V];simp);have g:=AO q.2 h.le;rw[adU G V,e,adU A0 (by simpa using V)];exact⟨g.out,g.more,alB g.le h.le⟩
 .rw[adV G V];refine⟨h.out,λA3=>?_,h.le⟩;rw[h.more A3,adV A0 (by simpa using V)]
theorem Rl.ret{m:Nat}{s:Mc}{w:Hw}(h:w≠.ft 4):Rl m s.fuel (w,s) (w,zi m s):=⟨λe=>absurd e h,λ_=>rfl,aar _⟩
theorem Rl.HU{m f:Nat}{s:Mc}{w:Hw}(h:w≠.ft 4)(Y:s.fuel=f):Rl m f (w,s) (w,zi m s):=⟨λe=>absurd e h,λ_=>rfl,by simp[Y]⟩
theorem Rl.val{m:Nat}{s:Mc}{v:Vl}(AP:∀e,v=.f e->e≠4){F F':Int->Rr}(A6:∀n,Rl m s.fuel (F n) (F' n)):Rl m s.fuel (vR v s F) (vR v (zi m s) F'):=by
 cases v with
 |f e=>exact .ret (by simpa using AP e rfl)
 |v n t=>exact A6 n
theorem Rl.step{m:Nat}{s:Mc}{F F':Mc->Rr}(A6:∀f,s.fuel=f+1->Rl m f (F ⟨s.cells,f⟩) (F' (zi m ⟨s.cells,f⟩))):Rl m s.fuel (iL F s) (iL F' (zi m s)):=by
 unfold iL zi;by_cases A7:s.fuel=0
 .rw[ac1 A7];exact⟨λ_=>A7,λh=>absurd rfl h,aar _⟩
 .have h:=A6 (s.fuel-1) (by omega);rw[aaf A7,aaf (by simp only;omega)];simp only at h⊢;rw[show s.fuel+m-1=s.fuel-1+m by omega];exact⟨h.out,h.more,by have:=h.le;omega⟩
theorem Rl.left{m f:Nat}{q O:Rr}(h:Rl m f q O):Rl m f (eX q) (eX O):=by
 unfold eX;by_cases Z:q.1=.lv
 .have e:=h.more (by rw[Z];simp);rw[ac1 Z,e,ac1 (by simpa using Z)];exact⟨λhh=>by simp at hh,λ_=>rfl,h.le⟩
 .rw[aaf Z];refine⟨h.out,λA3=>?_,h.le⟩;rw[h.more A3,aaf (by simpa using Z)]
theorem Rl.ite{m f:Nat}{c:Prop}[Decidable c]{a b AD AE:Rr}(T:Rl m f a AD)(U:Rl m f b AE):Rl m f (if c then a else b) (if c then AD else AE):=by
 by_cases J:c
 .rw[ac1 J,ac1 J];exact T
 .rw[aaf J,aaf J];exact U
def Mo(m:Nat)(F:Mc->Rr):Prop:=∀s,Rl m s.fuel (F s) (F (zi m s))
theorem Qi{m:Nat}{c:List Int->Vl}{b:Mc->Rr}(J:∀C e,c C=.f e->e≠4)(H:Mo m b):∀(n D:Nat)(s:Mc),s.fuel<n->s.fuel+m<D->Rl m s.fuel (wC c b n s) (wC c b D (zi m s))
 |0,D,s,h,_=>by omega
 |n+1,0,s,_,h=>by omega
 |n+1,D+1,s,h,AF=>by
  unfold wC;refine Rl.step λf Y=>?_;refine Rl.val (s:=⟨s.cells,f⟩) (J _) λk=>?_;refine Rl.ite (.ret (by simp)) ((H _).bind λM A1=>?_);simp only at A1;exact Qi J H n D M (by omega) (by omega)
theorem Qj{m:Nat}{c:List Int->Vl}{b:Mc->Rr}(J:∀C e,c C=.f e->e≠4)(H:Mo m b):∀(n D:Nat)(s:Mc),s.fuel<n->s.fuel+m<D->Rl m s.fuel (wD c b n s) (wD c b D (zi m s))
 |0,D,s,h,_=>by omega
 |n+1,0,s,_,h=>by omega
 |n+1,D+1,s,h,AF=>by
  unfold wD;refine (H s).bind λM A1=>?_;refine Rl.step λf Y=>?_;refine Rl.val (s:=⟨M.cells,f⟩) (J _) λk=>?_;refine Rl.ite ?_ (.ret (by simp));exact Qj J H n D ⟨M.cells,f⟩ (by simp only;omega) (by simp only;omega)
theorem Qk{m:Nat}{at_ to by_:Int}{b:Mc->Rr}(H:Mo m b):∀(n D:Nat)(s:Mc),s.fuel<n->s.fuel+m<D->Rl m s.fuel (xr at_ to by_ b n s) (xr at_ to by_ b D (zi m s))
 |0,D,s,h,_=>by omega
 |n+1,0,s,_,h=>by omega
 |n+1,D+1,s,h,AF=>by
  unfold xr;refine Rl.step λf Y=>?_;refine Rl.ite (.HU (by simp) rfl) ((H ⟨s.cells,f⟩).bind λM A1=>?_);simp only at A1;refine Rl.val (λe he=>adS he) λk=>?_;exact Qk H n D ⟨eP M.cells at_ k,M.fuel⟩ (by simp only;omega) (by simp only;omega)
theorem Y3{m:Nat}{C:List Int}{f:Nat}{a:Int}{v:Vr}{n x:Int}:Rl m f (A5 C f a v n x) (A5 C (f+m) a v n x):=by
 unfold A5;exact Rl.ite (.HU (by simp) rfl) (.HU (by simp) rfl)
theorem abK{m:Nat}(to val:Ex):Mo m (qt vs to val):=by
 intro s;unfold qt;refine Rl.ite (Rl.val (sh _ _) λn=>.HU (by simp) rfl) ?_;exact Rl.val (adT _ _) λk=>Rl.val (sh _ _) λn=>Y3
theorem Ql{m:Nat}(name:Tx):∀(fs:List Tx)(xs:List Ex),Mo m (ko vs name fs xs)
 |[],xs,s=>by
  have e:∀s,ko vs name [] xs s=(.on,s):=λs=>by cases xs<;>rfl
  rw[e,e];exact .ret (by simp)
 |f::fs,[],s=>.ret (by simp)
 |f::fs,x::xs,s=>by
  unfold ko;exact Rl.val (sh _ _) λn=>Ql name fs xs ⟨eP s.cells (eH vs name f).1 n,s.fuel⟩
theorem V5{m:Nat}(name:Tx)(fs:List Tx)(xs:List Ex):Mo m (nH vs name fs xs):=by
 intro s;unfold nH;exact (Ql name fs xs s).bind λM _=>.HU (by simp) rfl
theorem Y4{m:Nat}(name:Tx)(conds:List Ex){b:Mc->Rr}(H:Mo m b):Mo m (wZ vs name conds b):=by
 intro s;unfold wZ;match conds with
 |[x,y,z]=>
  refine Rl.val (sh _ _) λA'=>Rl.val (sh _ _) λAR=>Rl.val (sh _ _) λAS=>?_;exact Qk H _ _ ⟨eP s.cells (bu vs name).1 A',s.fuel⟩ (by simp only;omega) (by simp only[zi];omega)
 |[]=>exact .ret (by simp)
 |[_]=>exact .ret (by simp)
 |[_,_]=>exact .ret (by simp)
 |_::_::_::_::_=>exact .ret (by simp)
mutual
theorem abL(m:Nat):∀x:Sm,Mo m (iw vs x)
 | .mk op name to val conds AQ fields blocks line,s=>by
  have AG:=ML m blocks;have A8:=abM m blocks;rw[iw,iw];refine Rl.step λf Y=>?_;refine Rl.ite (abK to val ⟨s.cells,f⟩) ?_;refine Rl.ite (AG.1 conds ⟨s.cells,f⟩) ?_;refine Rl.ite (Rl.val (s:=⟨s.cells,f⟩) (sh _ _) λn=>AG.2 n AQ ⟨s.cells,f⟩) ?_;refine Rl.ite ((Y4 name conds A8 ⟨s.cells,f⟩).left) ?_;refine Rl.ite ((Qi (λC e=>sh C val e) A8 _ _ ⟨s.cells,f⟩ (by simp only;omega) (by simp only[zi];omega)).left) ?_;refine Rl.ite ((Qj (λC e=>sh C val e) A8 _ _ ⟨s.cells,f⟩ (by simp only;omega) (by simp only[zi];omega)).left) ?_;refine Rl.ite (.HU (by simp) rfl) ?_;refine Rl.ite (.HU (by simp) rfl) ?_;exact V5 name fields conds ⟨s.cells,f⟩
theorem Ad(m:Nat):∀l:List Sm,Mo m (bX vs l)
 |[],s=>.ret (by simp)
 |x::r,s=>by
  rw[bX,bX];exact (abL m x s).bind λM _=>Ad m r M
theorem ML(m:Nat):∀l:List (List Sm),(∀cs,Mo m (gJ vs l cs))/\(∀n ls,Mo m (gK vs l n ls))
 |[]=>⟨λcs s=>by unfold gJ;exact .ret (by simp),λn ls s=>by unfold gK;exact .ret (by simp)⟩
 |b::r=>by
  have H:=Ad m b;have AH:=ML m r;refine⟨λcs s=>?_,λn ls s=>?_⟩
  .cases cs with
   |nil=>unfold gJ;exact H s
   |cons c cs=>
    unfold gJ;exact Rl.val (sh _ _) λn=>Rl.ite (AH.1 cs s) (H s)
  .cases ls with
   |nil=>unfold gK;exact H s
   |cons l ls=>
    unfold gK;exact Rl.ite (H s) (AH.2 n ls s)
theorem abM(m:Nat):∀l:List (List Sm),Mo m (lR vs l)
 |[],s=>by unfold lR;exact .ret (by simp)
 |b::r,s=>by unfold lR;exact Ad m b s
end
end
section
variable {vs:List Vr}
theorem adW{op:Int}{l:List Int}{t:Bool}{e:Int}(h:ou op l t=.f e):e≠0:=by
 unfold ou at h;split at h
 .cases h
 .rename_i T;cases h;exact T
theorem aiQ{C:List Int}{a:Int}{v:Vr}{n e:Int}(h:A4 C a v n=.f e):e≠0:=by
 unfold A4 at h;split at h
 .cases h;decide
 .cases h
mutual
theorem qP(C:List Int):∀(x:Ex)(e:Int),bN vs C x=.f e->e≠0
 | .mk op n name field sub line,e,h=>by
  have U:=anz C sub;have V:=Y5 C sub;rw[bN]at h;by_cases H:op=1
  .rw[ac1 H]at h;cases h
  rw[aaf H]at h;by_cases I:op=2
  .rw[ac1 I]at h;cases h
  rw[aaf I]at h;by_cases J:op=3
  .rw[ac1 J]at h;cases h
  rw[aaf J]at h;by_cases M:op=4
  .rw[ac1 M]at h;cases D:sO vs C sub with
   |f e'=>rw[D]at h;cases h;exact U _ D
   |v k t=>rw[D]at h;exact aiQ h
  rw[aaf M]at h;by_cases O:op=5
  .rw[ac1 O]at h;cases h
  rw[aaf O]at h;cases D:(lu vs C sub false).2 with
  |f e'=>rw[D]at h;cases h;exact V _ _ D
  |v k t=>rw[D]at h;exact adW h
theorem anz(C:List Int):∀(l:List Ex)(e:Int),sO vs C l=.f e->e≠0
 |[],e,h=>by simp only[sO]at h;cases h;decide
 |x::r,e,h=>by
  simp only[sO]at h;exact qP C x e h
theorem Y5(C:List Int):∀(l:List Ex)(t:Bool)(e:Int),(lu vs C l t).2=.f e->e≠0
 |[],t,e,h=>by simp[lu]at h
 |x::r,t,e,h=>by
  rw[qu]at h;cases D:bN vs C x with
  |f e'=>rw[D]at h;cases h;exact qP C x _ D
  |v k Y=>rw[D]at h;exact Y5 C r Y e h
end
end
def Ga:∀(ts bs:List (List ar)),(bs.map List.length).sum<=(cF ts bs).length
 |[],[]=>by simp[cF]
 |_::_,[]=>by simp[cF]
 |[],b::r=>by
  have ih:=Ga [] r;rw[F8];simp only[adz,alN];split
  .rename_i h;subst h;simp
  .simp only[ei,acY,ac5,ac7];omega
 |t::ts,b::r=>by
  have ih:=Ga ts r;rw[cF];simp only[adz,alN];generalize cF ts r=out at ih⊢;rw[ei];simp only[acY,ac5,ac7,mP];split
  .omega
  .simp only[acY,ac5,ac7];omega
section
variable {vs:List Vr}
mutual
theorem V6:∀(s:Sm)(c:Int),(b8 vs s c).2<=c+(b8 vs s c).1.length
 | .mk op name to val conds AF fields blocks line,c=>by
  have I:=λc=>G2 blocks c;have J:=λc=>V7 blocks c;unfold b8;split
  .simp only;omega
  .split
   .have q1:=I c;have q2:=Ga (conds.map λx=>(ai vs x).1) (ay vs blocks c).1;simp only
    omega
   .split
    .have q1:=I (c+1);have q2:=Ga (AF.map λl=>ins 1 0 0 0 0::dy c l) (ay vs blocks (c+1)).1;simp only[ei,acY,ac5,ac7];omega
    .split
     .have q1:=J (c+2);simp only[ei,acY,ac5,ac7,lI,so,mP];omega
     .split
      .have q1:=J c;simp only[iK,so,acY,ac5,ac7,mP];omega
      .split
       .have q1:=J c;simp only[mK,so,acY,ac5,ac7];omega
       .split
        .simp only;omega
        .split<;>(simp only;omega)
theorem rT:∀(l:List Sm)(c:Int),(ag vs l c).2<=c+(ag vs l c).1.length
 |[],c=>by simp[ag]
 |x::r,c=>by
  have I:=V6 x c;have J:=rT r (b8 vs x c).2;simp only[ag,ei,ac5,ac7];omega
theorem G2:∀(l:List (List Sm))(c:Int),(ay vs l c).2<=c+(((ay vs l c).1.map List.length).sum:Nat)
 |[],c=>by simp[ay]
 |b::r,c=>by
  have I:=rT b c;have J:=G2 r (ag vs b c).2;simp only[ay,adz,alN];omega
theorem V7:∀(l:List (List Sm))(c:Int),(lJ vs l c).2<=c+(lJ vs l c).1.length
 |[],c=>by simp[lJ]
 |b::r,c=>rT b c
end
end
def abN{cells last:Int}{i:Int}{x:ar}(h:dH DN cells 0 0 x=true)(Z:¬gI x)(AG:x.op≠15):dH DN cells last i x=true:=by
 unfold dH at h⊢;unfold gI at Z;split
 .rfl
 .rename_i g1;rw[aaf g1]at h;split
  .rename_i g2;rw[ac1 g2]at h;exact h
  .rename_i g2;rw[aaf g2]at h;split
   .rename_i g3;rw[ac1 g3]at h;exact h
   .rename_i g3;rw[aaf g3]at h;split
    .rename_i g4;rw[ac1 g4]at h;exact h
    .rename_i g4;rw[aaf g4]at h;split
     .rename_i g5;rw[ac1 g5]at h;exact h
     .rename_i g5;rw[aaf g5,aaf Z]at h;split
      .rename_i g7;rw[ac1 g7]at h;exact h
      .rename_i g7;rw[aaf g7,aaf AG]at h;cases h
def Qm{l:List ar}{S S':List Bool}(h:cV l S=some S')(i:Nat):∃T,cV (l.take i) S=some T:=by
 rw[<-air i l,dX]at h;cases A':cV (l.take i) S with
 |none=>rw[A']at h;cases h
 |some T=>exact⟨T,rfl⟩
def afb{g:List ar}{cells:Int}(h:Fg cells false g)(AP:g.length+1<=4096):∃r st,Good DN cells (g.map (n8 g.length)++[ins 15 0 0 0 0]) r st:=by
 obtain⟨l,U⟩:∃l,l=g.map (n8 g.length)++[ins 15 0 0 0 0]:=⟨_,rfl⟩;rw[<-U];have AQ:l.length=g.length+1:=by rw[U];simp
 have AH:cV (g.map (n8 g.length)) []=some []:=by rw[uY (P5 _)];exact h.run
 have A4:cV l []=some []:=by
  rw[U,dX,AH];simp[cV,cM,ins,iI]
 have A1:∀(i:Nat) x,l[i]?=some x->(i<g.length/\∃y,g[i]?=some y/\x=n8 g.length y)\/(i=g.length/\x=ins 15 0 0 0 0):=by
  intro i x H;rw[U]at H;by_cases hi:i<g.length
  .rw[ac9 (by simpa using hi),adn]at H;obtain⟨y,M,rfl⟩:=ac3.1 H;exact .inl ⟨hi,y,M,rfl⟩
  .rw[adb (by simpa using hi)]at H;have V:i-g.length=0:=by
    have:=(aap.1 H).1;simp at this;omega
   simp only[List.length_map]at H;rw[V]at H;simp at H;exact .inr ⟨by omega,H.symm⟩
 have A5:∀k,k<=g.length->cV (l.take k) []=cV (g.take k) []:=by
  intro k A6;rw[U,ahb (by simpa using A6),<-apP,uY (P5 _)]
 have A7:∀y,gI (n8 g.length y)↔gI y:=λy=>by unfold gI;rw[YJ]
 --where a jump leads
 have A2:∀(i:Nat) x,l[i]?=some x->gI x->0<=x.a/\x.a.toNat<=g.length/\cV (l.take x.a.toNat) []=some []/\(i<x.a.toNat\/∃y,l[x.a.toNat]?=some y/\y.op=11):=by
  intro i x H D;rcases A1 i x H with ⟨hi,y,M,rfl⟩|⟨_,rfl⟩
  .have A8:=(A7 y).1 D;have A9:cV (l.take g.length) []=some []:=by rw[A5 _ (aar _),List.take_length];exact h.run
   by_cases V:0<=y.a
   .have e:n8 g.length y=y:=by unfold n8;rw[aaf (by rintro ⟨_,AR⟩;omega)]
    rw[e];rcases h.jmp i y M A8 V with I|⟨I,J,O⟩
    .refine⟨V,by omega,?_,.inl (by omega)⟩;rw[I];exact A9
    .refine⟨V,I,by rw[A5 _ I];exact J,?_⟩;rcases O with O|⟨z,AA,AI⟩
     .exact .inl O
     .refine .inr ⟨n8 g.length z,?_,by rw[YJ];exact AI⟩;rw[U,ac9 (by simpa using (aap.1 AA).1),adn,AA];rfl
   .obtain⟨q1,q2⟩:=h.out y (ac6 M) A8 (by omega);have q2:y.a= -2:=by
     rcases q2 with q2|⟨q2,_⟩
     .exact q2
     .cases q2
    have e:(n8 g.length y).a=g.length:=by unfold n8;rw[ac1 ⟨q1,q2⟩]
    rw[e];refine⟨by omega,by omega,?_,.inl (by omega)⟩;rw[show ((g.length:Int)).toNat=g.length by omega];exact A9
  .simp[gI,ins]at D
 refine⟨λi=>match l[i]? with|some x=>if x.op=11 then 0 else l.length+1-i|none=>0,λi=>(cV (l.take i) []).getD [],?_⟩;refine⟨by omega,?_,?_,rfl,?_,?_,?_⟩
 .intro x H;rcases A1 _ x H with ⟨hi,_⟩|⟨_,rfl⟩
  .omega
  .rfl
 .intro i x H;by_cases D:gI x
  .obtain⟨I,J,_⟩:=A2 i x H D;have O:x.a<=(l.length:Int)-1:=by omega
   unfold dH;rcases D with e|e
   .simp[e,I,O]
   .simp[e,I,O]
  .rcases A1 i x H with ⟨hi,y,M,rfl⟩|⟨hi,rfl⟩
   .have e:n8 g.length y=y:=by
     rcases P5 (g.length:Int) y with e|⟨e,_⟩
     .exact e
     .exact absurd ((A7 y).2 e) D
    rw[e]at D⊢;rcases h.ok y (ac6 M)with I|⟨I,J⟩
    .exact absurd I D
    .exact abN I D J
   .have:dH DN cells ((l.length:Int)-1) (i:Int) (ins 15 0 0 0 0)=true:=by
     simp[dH,ins];omega
    exact this
 .intro i x H;obtain⟨T,AB⟩:=Qm A4 i;obtain⟨AC,AD⟩:=Qm A4 (i+1);have hi:=(aap.1 H).1;have e:l.take (i+1)=l.take i++[x]:=by
   rw[List.take_add_one,H];rfl
  rw[e,dX,AB]at AD;have Y:cV [x] T=some AC:=AD;simp only[cV]at Y;have hm:cM x T=some AC:=by
   cases A':cM x T with
   |none=>rw[A']at Y;cases Y
   |some AS=>rw[A']at Y;simpa using Y
  show cM x ((cV (l.take i) []).getD [])=some ((cV (l.take (i+1)) []).getD []);rw[e,dX,AB];show cM x T=some (((cV [x] T)).getD []);simp only[cV,hm];rfl
 .intro i x H D;obtain⟨_,_,O,_⟩:=A2 i x H D;show (cV (l.take x.a.toNat) []).getD []=[];rw[O];rfl
 .intro i x H AJ j D;have hi:=(aap.1 H).1;have AK:(match l[i]? with|some x=>if x.op=11 then 0 else l.length+1-i|none=>0)=l.length+1-i:=by
   rw[H];simp only
   rw[aaf AJ]
  have AL:∀j:Nat,(match l[j]? with|some x=>if x.op=11 then 0 else l.length+1-j|none=>0)<=l.length+1-j:=by
   intro j;cases l[j]? with
   |none=>simp
   |some z=>simp only;split<;>omega
  have A3:∀k:Nat,i<k->(match l[k]? with|some x=>if x.op=11 then 0 else l.length+1-k|none=>0)<l.length+1-i:=by
   intro k A6;have:=AL k;omega
  have AT:gI x->(match l[x.a.toNat]? with|some x=>if x.op=11 then 0 else l.length+1-x.a.toNat|none=>0)<l.length+1-i\/True:=λ_=>.inr trivial;show (match l[j]? with|some x=>if x.op=11 then 0 else l.length+1-j|none=>0)<(match l[i]? with|some x=>if x.op=11 then 0 else l.length+1-i|none=>0);rw[AK];have AE:gI x->j=x.a.toNat->(match l[j]? with|some x=>if x.op=11 then 0 else l.length+1-j|none=>0)<l.length+1-i:=by
   intro AM e;obtain⟨_,_,_,A0⟩:=A2 i x H AM;rw[<-e]at A0;rcases A0 with A0|⟨y,M,AN⟩
   .exact A3 j A0
   .rw[M];simp only
    rw[ac1 AN];omega
  unfold xR at D;rw[H]at D;simp only at D;split at D
  .rename_i Z;simp at D;exact AE (.inl Z) D
  .split at D
   .rename_i AO;simp at D;rcases D with D|D
    .exact A3 j (by omega)
    .exact AE (.inr AO) D
   .split at D
    .simp at D
    .simp at D;exact A3 j (by omega)
def V8(b:Int):DN b=jT b:=rfl
inductive dG(L:List ar):Ms->Ms->Prop
 |refl (s:Ms):dG L s s
 |step (s:Ms) (x:ar) (t:Ms) (J:s.fault=0) (D:L[s.at_.toNat]?=some x) (h:x.op≠15) (A5:dG L (bB x s) t):dG L s t
section
variable {L:List ar}
theorem dG.trans{a b c:Ms}(M:dG L a b)(H:dG L b c):dG L a c:=by
 induction M with
 |refl=>exact H
 |step s x t J D h _ ih=>exact .step _ _ _ J D h (ih H)
theorem dG.runs{a b c:Ms}(M:dG L a b)(H:pQ L b c):pQ L a c:=by
 induction M with
 |refl=>exact H
 |step s x t J D h _ ih=>exact .step _ _ _ J D h (ih H)
end
def mS(K S:List Int)(p f:Nat):Ms:=⟨K,S,p,f,0⟩
def dG.one{L:List ar}{K S:List Int}{p f:Nat}{x:ar}{t:Ms}(D:L[p]?=some x)(h:x.op≠15)(A2:bB x (mS K S p f)=t):dG L (mS K S p f) t:=
 .step _ x _ rfl (by simpa [mS]using D) h (A2▸.refl _)
section
variable {K S:List Int} {p f:Nat}
theorem abP{k:Int}:bB (ins 1 0 0 k 0) (mS K S p f)=mS K (S++[k]) (p+1) f:=rfl
theorem V9{a:Int}:bB (ins 2 a 0 0 0) (mS K S p f)=mS K (S++[fo K a]) (p+1) f:=rfl
theorem aiR{a:Int}:bB (ins 3 a 0 0 0) (mS K S p f)=mS K (S++[cg (decide (fo K a≠0))]) (p+1) f:=rfl
theorem arl{a lo hi k:Int}:bB (ins 4 a 0 lo hi) (mS K (S++[k]) p f)=if k<lo\/hi<k then ⟨K,S,(p+1:Nat),f,3⟩else mS K (S++[fo K (a+(k-lo))]) (p+1) f:=by
 by_cases h:k<lo\/hi<k
 .rw[ac1 h];have H:¬(lo<=k/\k<=hi):=by omega
  have I:iT (ins 4 a 0 lo hi) k=false:=by
   unfold iT ins;simp only[apO,aed];omega
  simp[bB,dI,mS,Ms.top,Ms.pop,Ms.push,I];simp[ins]
 .rw[aaf h];have I:iT (ins 4 a 0 lo hi) k=true:=by
   unfold iT ins;simp only[Ds,ac2];omega
  simp[bB,dI,mS,Ms.top,Ms.pop,Ms.push,I];simp[ins]
theorem arn{a lo hi k:Int}:bB (ins 5 a 0 lo hi) (mS K (S++[k]) p f)=if k<lo\/hi<k then ⟨K,S,(p+1:Nat),f,3⟩else mS K (S++[cg (decide (fo K (a+(k-lo))≠0))]) (p+1) f:=by
 by_cases h:k<lo\/hi<k
 .rw[ac1 h];have H:¬(lo<=k/\k<=hi):=by omega
  have I:iT (ins 5 a 0 lo hi) k=false:=by
   unfold iT ins;simp only[apO,aed];omega
  simp[bB,dI,mS,Ms.top,Ms.pop,Ms.push,I];simp[ins]
 .rw[aaf h];have I:iT (ins 5 a 0 lo hi) k=true:=by
   unfold iT ins;simp only[Ds,ac2];omega
  simp[bB,dI,mS,Ms.top,Ms.pop,Ms.push,I];simp[ins];rfl
theorem HV{a k:Int}:bB (ins 6 a 0 0 0) (mS K (S++[k]) p f)=mS (oP K a k) S (p+1) f:=by
 simp[bB,dI,mS,Ms.top,Ms.pop,ins]
theorem aro{a lo hi k x:Int}:bB (ins 7 a 0 lo hi) (mS K (S++[k]++[x]) p f)=if k<lo\/hi<k then ⟨K,S,(p+1:Nat),f,3⟩else mS (oP K (a+(k-lo)) x) S (p+1) f:=by
 by_cases h:k<lo\/hi<k
 .rw[ac1 h];have H:¬(lo<=k/\k<=hi):=by omega
  have I:iT (ins 7 a 0 lo hi) k=false:=by
   unfold iT ins;simp only[apO,aed];omega
  simp[bB,dI,mS,Ms.top,Ms.pop,Ms.push,I,ajb,<-adM, -adM];simp[ins]
 .rw[aaf h];have I:iT (ins 7 a 0 lo hi) k=true:=by
   unfold iT ins;simp only[Ds,ac2];omega
  simp[bB,dI,mS,Ms.top,Ms.pop,Ms.push,I,ajb,<-adM, -adM];simp[ins]
def Ty(K S:List Int)(p f:Nat)(r:Int×Bool×Int):Ms:=if r.2.2=0 then mS K (S++[r.1]) (p+1) f else ⟨K,S,(p+1:Nat),f,r.2.2⟩
theorem anB{a op k:Int}(V:op=6\/op=7):bB (ins 8 a op 0 0) (mS K (S++[k]) p f)=Ty K S p f (jl op k (decide (a=1))):=by
 simp[bB,dI,fZ,Mw,mS,Ty,Ms.top,Ms.pop,Ms.push,ins,V];rfl
theorem Wa{a op j k:Int}(V:¬(op=6\/op=7)):bB (ins 8 a op 0 0) (mS K (S++[j]++[k]) p f)=Ty K S p f (gR op j k (decide (a=1))):=by
 simp[bB,dI,fZ,Mw,mS,Ty,Ms.top,Ms.pop,Ms.push,ins,V,ajb,<-adM, -adM];rfl
theorem Wb{q:Nat}:bB (ins 9 q 0 0 0) (mS K S p f)=mS K S q f:=rfl
theorem JK{q:Nat}{k:Int}:bB (ins 10 q 0 0 0) (mS K (S++[k]) p f)=if k=0 then mS K S q f else mS K S (p+1) f:=by
 simp[bB,dI,fZ,mS,Ms.top,Ms.pop,ins]
theorem anC:bB (ins 11 0 0 0 0) (mS K S p f)=if f=0 then ⟨K,S,(p+1:Nat),(0:Nat),4⟩else mS K S (p+1) (f-1):=by
 cases f with
 |zero=>simp[bB,dI,fZ,mS,ins]
 |succ f=>
  simp[bB,dI,fZ,mS,ins];omega
theorem anD{a k:Int}:bB (ins 12 a k 0 0) (mS K S p f)=mS (pb (ins 12 a k 0 0) K) S (p+1) f:=rfl
theorem anE{a b:Int}:bB (ins 13 a b 0 0) (mS K S p f)=mS K (S++[cg (tM K (ins 13 a b 0 0))]) (p+1) f:=rfl
theorem anF{a lo hi:Int}:bB (ins 14 a 0 lo hi) (mS K S p f)=mS K (S++[cg (decide (lo<=fo K a/\fo K a<=hi))]) (p+1) f:=rfl
end
def rU(n X R:Nat)(x:ar):ar:=if x.op=9\/x.op=10 then {x with a:=if 0<=x.a then x.a+n else if x.op=9/\x.a= -1 then X else R} else x
def ej(L:List ar)(n X R:Nat)(l:List ar):Prop:=∀(i:Nat)(x:ar),l[i]?=some x->L[n+i]?=some (rU n X R x)
def wE{n X R:Nat}{x:ar}(h:x.op≠9/\x.op≠10):rU n X R x=x:=by unfold rU;rw[aaf (by omega)]
def aiS(n X R k:Nat)(x:ar):rU n X R (pc k x)=rU (n+k) X R x:=by
 obtain⟨op,a,b,c,d⟩:=x;unfold rU pc;by_cases h:op=9\/op=10
 .by_cases J:0<=a
  .simp only[h,J,and_self,ad7,ar.mk.injEq,alC,and_true];rw[ac1 (by omega)];omega
  .simp only[h,J,and_false,adN,ad7]
 .simp only[h,false_and,adN]
def afc(n X R k:Nat)(x:ar):rU n X R (uu k x)=rU n (n+k) R x:=by
 obtain⟨op,a,b,c,d⟩:=x;unfold rU uu;by_cases h:op=9/\a= -1
 .obtain⟨rfl,rfl⟩:=h;simp;omega
 .rw[aaf h];by_cases H:op=9\/op=10
  .simp only[H,ad7,h,adN]
  .simp only[H,adN]
section
variable {L:List ar} {n X R:Nat}
theorem ej.left{a b:List ar}(h:ej L n X R (a++b)):ej L n X R a:=λi x D=>h i x (by
 rw[ac9 (aap.1 D).1];exact D)
theorem ej.right{a b:List ar}(h:ej L n X R (a++b))(i:Nat)(x:ar)(D:b[i]?=some x):L[n+a.length+i]?=some (rU n X R x):=by
 have:=h (a.length+i) x (by rw[adb (by omega)];rw[show a.length+i-a.length=i by omega];exact D);rw[show n+a.length+i=n+(a.length+i) by omega];exact this
theorem ej.flat{a b:List ar}(h:ej L n X R (a++b))(A3:Flat b):ej L (n+a.length) X R b:=λi x D=>by
 have hm:=A3 x (ac6 D);rw[h.right i x D,wE hm,wE hm]
theorem ej.JL{a b:List ar}(h:ej L n X R (jn a b)):ej L n X R a:=ej.left h
theorem ej.MM{a b:List ar}(h:ej L n X R (jn a b)):ej L (n+a.length) X R b:=λi x D=>by
 have:=ej.right h i (pc a.length x) (by unfold jj;rw[adn,D];rfl);rw[this,aiS]
theorem ej.out{l:List ar}(h:ej L n X R (sm l)):ej L n (n+l.length) R l:=λi x D=>by
 have:=h i (uu l.length x) (by unfold sm;rw[adn,D];rfl);rw[this,afc]
theorem ej.head{x:ar}{l:List ar}(h:ej L n X R (x::l))(D:x.op≠9/\x.op≠10):L[n]?=some x:=by
 have:=h 0 x rfl;rw[wE D]at this;exact this
theorem ej.tail{x:ar}{l:List ar}(h:ej L n X R (x::l))(A4:Flat l):ej L (n+1) X R l:=λi y Z=>by
 have hm:=A4 y (ac6 Z);have:=h (i+1) y (by simpa using Z);rw[wE hm]at this⊢;rw[show n+1+i=n+(i+1) by omega];exact this
theorem ej.last{a:List ar}{x:ar}(h:ej L n X R (a++[x]))(D:x.op≠9/\x.op≠10):L[n+a.length]?=some x:=by
 have:=h.right 0 x rfl;rw[wE D]at this;exact this
theorem Wc{a:Int}{k:Nat}(h:a=k):rU n X R (ins 9 a 0 0 0)=ins 9 ((n+k:Nat)) 0 0 0:=by
 subst h;simp[rU,ins];omega
theorem JM{a:Int}{k:Nat}(h:a=k):rU n X R (ins 10 a 0 0 0)=ins 10 ((n+k:Nat)) 0 0 0:=by
 subst h;simp[rU,ins];omega
theorem ej.ch{t b:List ar}{ts r:List (List ar)}{pl:Nat}(Y:pl=if r=[]then b.length else b.length+1)(h:ej L n X R (cF (t::ts) (b::r))):
 ej L n X R t/\L[n+t.length]?=some (ins 10 ((n+(t.length+1+pl):Nat)) 0 0 0)/\ej L (n+(t.length+1)) X R b/\
 (r≠[]->L[n+(t.length+1+b.length)]?=some (ins 9 ((n+(t.length+1+pl+(cF ts r).length):Nat)) 0 0 0))/\ej L (n+(t.length+1+pl)) X R (cF ts r)/\
 (cF (t::ts) (b::r)).length=t.length+1+pl+(cF ts r).length:=by
 have e:cF (t::ts) (b::r)=jn (jn (t++[ins 10 ((t.length:Int)+1+(if r=[]then b else b++[ins 9 ((b.length:Int)+1+(cF ts r).length) 0 0 0]).length) 0 0 0]) (if r=[]then b else b++[ins 9 ((b.length:Int)+1+(cF ts r).length) 0 0 0])) (cF ts r):=by
  rw[cF];simp[jn]
 rw[e]at h⊢;have A':(if r=[]then b else b++[ins 9 ((b.length:Int)+1+(cF ts r).length) 0 0 0]).length=pl:=by
  rw[Y];split<;>simp
 generalize O:(if r=[]then b else b++[ins 9 ((b.length:Int)+1+(cF ts r).length) 0 0 0])=q at h A'⊢;have M:=h.JL;have H:=h.MM;have I:=M.JL;have T:=M.MM;have A0:=I.right 0 _ rfl;rw[JM (k:=t.length+1+pl) (by omega)]at A0;simp only[ei,acY,ac5,ac7,A']at H T⊢;refine⟨I.left,A0,?_,λU=>?_,?_,?_⟩;rotate_right
 .first|trivial|omega
 .by_cases U:r=[]
  .rw[ac1 U]at O;rw[O];exact T
  .rw[aaf U]at O;rw[<-O]at T;exact T.left
 .rw[aaf U]at O Y;rw[<-O]at T;have A1:=T.right 0 _ rfl;rw[Wc (k:=b.length+1+(cF ts r).length) (by omega)]at A1;rw[show n+(t.length+1+b.length)=n+(t.length+(0+1))+b.length+0 by omega,A1,Y];congr 3;omega
 .rw[show n+(t.length+1+pl)=n+(t.length+(0+1)+pl) by omega];exact H
end
def sQ{C E:List Int}{k:Int}(h:k.toNat<C.length):fo (C++E) k=jB C k:=by
 unfold fo jB;rw[ac9 h]
def zj{C E:List Int}{k n:Int}(h:k.toNat<C.length):oP (C++E) k n=eP C k n++E:=by
 unfold oP eP;exact List.set_append_left _ _ h
@[simp] def arp{C:List Int}{k n:Int}:(eP C k n).length=C.length:=by simp[eP]
def MN(L:List ar)(K S:List Int)(p f:Nat)(q:Vl)(e:Nat):Prop:=
 match q with
 | .v k _=>dG L (mS K S p f) (mS K (S++[k]) e f)
 | .f A6=>∃t,dG L (mS K S p f) t/\t.cells=K/\t.fuel=f/\t.fault=A6
def GX(L:List ar)(vs:List Vr)(v:Nat)(x:Ex):Prop:=∀(n X R:Nat)(C E S:List Int)(f:Nat),C.length=v->ej L n X R (ai vs x).1->MN L (C++E) S n f (bN vs C x) (n+(ai vs x).1.length)
def abQ{op a:Int}{t:Bool}(h:(jl op a t).2.2=0):(jl op a t).2.1=decide (op=7):=by
 unfold jl px hU at*;by_cases T:t=true
 .rw[ac1 T]at h⊢;by_cases I:a≠0/\a≠1
  .rw[ac1 I]at h;simp at h
  .rw[aaf I]at h⊢;by_cases D:op=7
   .rw[ac1 D];simp[D]
   .rw[aaf D]at h;simp at h
 .rw[aaf T]at h⊢;by_cases D:op=6
  .rw[ac1 D]at h⊢;subst D;split at h
   .rename_i O;rw[ac1 O];rfl
   .simp at h
  .rw[aaf D]at h;simp at h
def Ff{q:Int×Bool}:(px q).2.1=false:=by unfold px;split<;>rfl
def MO{q:Int×Int}:(oO q).2.1=false:=by
 unfold oO;split
 .rfl
 .split<;>rfl
def Y6{op a b:Int}(h:(wX op a b).2.2=0):(wX op a b).2.1=decide (12<op):=by
 unfold wX hU at*;by_cases I:op=13
 .rw[ac1 I];simp[I]
 rw[aaf I]at h⊢;by_cases D:op=14\/op=20
 .rw[ac1 D];simp;omega
 rw[aaf D]at h⊢;by_cases O:op=19
 .rw[ac1 O];simp;omega
 rw[aaf O]at h⊢;by_cases A7:op=21
 .rw[ac1 A7];simp;omega
 rw[aaf A7]at h;simp at h
def abR{op a b:Int}(h:(xo op a b).2.2=0):(xo op a b).2.1=decide (12<op):=by
 unfold xo at*;by_cases I:op=8
 .rw[ac1 I,Ff];simp;omega
 rw[aaf I]at h⊢;by_cases D:op=9
 .rw[ac1 D,Ff];simp;omega
 rw[aaf D]at h⊢;by_cases O:op=10
 .rw[ac1 O,Ff];simp;omega
 rw[aaf O]at h⊢;by_cases A7:op=11
 .rw[ac1 A7,MO];simp;omega
 rw[aaf A7]at h⊢;by_cases AE:op=12
 .rw[ac1 AE,MO];simp;omega
 rw[aaf AE]at h⊢;by_cases AF:op=13
 .rw[ac1 AF];simp;omega
 rw[aaf AF]at h⊢;by_cases A':op=14
 .rw[ac1 A'];simp;omega
 rw[aaf A']at h⊢;by_cases AG:op=15
 .rw[ac1 AG];simp;omega
 rw[aaf AG]at h⊢;by_cases AH:op=16
 .rw[ac1 AH];simp;omega
 rw[aaf AH]at h⊢;by_cases AI:op=17
 .rw[ac1 AI];simp;omega
 rw[aaf AI]at h⊢;by_cases AJ:op=18
 .rw[ac1 AJ];simp;omega
 rw[aaf AJ]at h;simp[hU]at h
def abS{op a b:Int}{t:Bool}(h:(gR op a b t).2.2=0):(gR op a b t).2.1=decide (12<op):=by
 unfold gR at*;split at h
 .rename_i T;rw[ac1 T];split at h
  .simp[hU]at h
  .rename_i D;rw[aaf D];exact Y6 h
 .rename_i T;rw[aaf T];exact abR h
section
variable {vs:List Vr}
theorem Gc(C:List Int)(k line:Int):bN vs C (.mk 1 k [] [] [] line)=.v k false:=by simp[bN]
theorem Gd(C:List Int)(k line:Int):bN vs C (.mk 2 k [] [] [] line)=.v k true:=by simp[bN]
theorem Ge(C:List Int)(name:Tx)(line:Int):bN vs C (.mk 3 0 name [] [] line)=.v (zh C (bu vs name).1 (bu vs name).2.ty) (decide ((bu vs name).2.ty=2)):=by simp[bN]
theorem Gf(C:List Int)(name:Tx)(y:Ex)(line:Int):bN vs C (.mk 4 0 name [] [y] line)=vV (bN vs C y) λk=>A4 C (bu vs name).1 (bu vs name).2 k:=by simp[bN,sO]
theorem Gg(C:List Int)(name field:Tx)(line:Int):bN vs C (.mk 5 0 name field [] line)=.v (zh C (eH vs name field).1 (eH vs name field).2.ty) (decide ((eH vs name field).2.ty=2)):=by simp[bN]
theorem Gi(C:List Int)(op line:Int)(y:Ex)(A1:6<=op):bN vs C (.mk op 0 [] [] [y] line)=(match bN vs C y with| .f e=>.f e| .v a t=>ou op [a] t):=by
 rw[bN];rw[aaf (by omega),aaf (by omega),aaf (by omega),aaf (by omega),aaf (by omega)];cases h:bN vs C y<;>simp[lu,h]
theorem Gj(C:List Int)(op line:Int)(y z:Ex)(A1:6<=op):bN vs C (.mk op 0 [] [] [y,z] line)=(match bN vs C y with| .f e=>.f e| .v a _=>(match bN vs C z with| .f e=>.f e| .v b t=>ou op [a,b] t)):=by
 rw[bN];rw[aaf (by omega),aaf (by omega),aaf (by omega),aaf (by omega),aaf (by omega)];cases h:bN vs C y<;>cases D:bN vs C z<;>simp[lu,h,D]
theorem Qo{op:Int}{l:List Int}{t:Bool}{k:Int}{b:Bool}(A1:6<=op)(h:ou op l t=.v k b):b=decide (op=7\/12<op):=by
 unfold ou at h;by_cases H:(BY op l t).2.2=0
 .rw[ac1 H]at h;injection h with _ AK
  rw[<-AK];match l,H with
  |[],H=>exact absurd H (by simp[BY,hU])
  |_::_::_::_,H=>exact absurd H (by simp[BY,hU])
  |[a],H=>
   have H:(jl op a t).2.2=0:=H;show (jl op a t).2.1=_;rw[abQ H];by_cases A':op=7
   .simp[A']
   .have AL:¬12<op:=by
     intro AL;unfold jl at H;split at H
     .split at H
      .simp[hU]at H
      .simp[hU,A']at H
     .rw[aaf (by omega)]at H;simp[hU]at H
    simp[A',AL]
  |[a,c],H=>
   have H:(gR op a c t).2.2=0:=H;show (gR op a c t).2.1=_;rw[abS H];by_cases A':op=7
   .exfalso;subst A';unfold gR at H;split at H
    .split at H
     .simp[hU]at H
     .simp[wX,hU]at H
    .simp[xo,hU]at H
   .simp[A']
 .rw[aaf H]at h;cases h
theorem Gk{op n:Int}{name field:Tx}{sub:List Ex}{line:Int}(A1:6<=op):ai vs (.mk op n name field sub line)=((gO vs sub).1++[ins 8 (if (gO vs sub).2=true then 1 else 0) op 0 0],decide (op=7\/12<op)):=by
 rw[ai,aaf (by omega),aaf (by omega),aaf (by omega),aaf (by omega)]
theorem Za{x:Ex}(U:XC vs x){C:List Int}{k:Int}{t:Bool}(h:bN vs C x=.v k t):t=(ai vs x).2:=by
 cases U with
 |num I=>rw[Gc]at h;cases h;simp[ai]
 |qX I=>rw[Gd]at h;cases h;simp[ai]
 |var Z A2 T=>rw[Ge]at h;cases h;simp[ai]
 |@idx name line v y Z A2 T A8 A9 ty=>
  rw[Gf]at h;have e:(ai vs (.mk 4 0 name [] [y] line)).2=decide ((bu vs name).2.ty=2):=by simp[ai]
  rw[e];cases J:bN vs C y with
  |f e=>rw[J]at h;simp[vV]at h
  |v n b=>
   rw[J]at h;simp only[vV,A4]at h;split at h
   .cases h
   .cases h;rfl
 |GY Z T AM A0=>rw[Gg]at h;cases h;simp[ai]
 |@one op line y A1 A8 A9 ty=>
  rw[Gi _ _ _ _ (by omega)]at h;have e:(ai vs (.mk op 0 [] [] [y] line)).2=decide (op=7\/12<op):=by
   rw[Gk (by omega)]
  rw[e];cases J:bN vs C y with
  |f e=>rw[J]at h;cases h
  |v n b=>rw[J]at h;exact Qo (by omega) h
 |@two op line y z A1 A8 A9 AN AO ty AR=>
  rw[Gj _ _ _ _ _ (by omega)]at h;have e:(ai vs (.mk op 0 [] [] [y,z] line)).2=decide (op=7\/12<op):=by
   rw[Gk (by omega)]
  rw[e];cases J:bN vs C y with
  |f e=>rw[J]at h;cases h
  |v n b=>
   rw[J]at h;simp only at h;cases A3:bN vs C z with
   |f e=>rw[A3]at h;cases h
   |v AW AX=>rw[A3]at h;exact Qo (by omega) h
end
def Qp{L:List ar}{K S:List Int}{p q f:Nat}{S':List Int}{r:Int×Bool×Int}{x:ar}(I:dG L (mS K S q f) (mS K S' p f))(U:L[p]?=some x)(AS:x.op≠15)(AB:bB x (mS K S' p f)=Ty K S p f r):
 MN L K S q f (if r.2.2=0 then .v r.1 r.2.1 else .f r.2.2) (p+1):=by
 have D:=I.trans (dG.one U AS AB);unfold Ty at D;by_cases h:r.2.2=0
 .rw[ac1 h]at D⊢;exact D
 .rw[aaf h]at D⊢;exact⟨_,D,rfl,rfl,rfl⟩
section
variable {vs:List Vr} {L:List ar} {v:Nat} (V:∀w∈vs,dr w=true) (Z:(v:Int)=bW vs)
include V Z
theorem C6{a:Int}(h:fW v a 1=true):a.toNat<v/\0<=a:=by
 unfold fW at h;simp only[Ds,ac2]at h;omega
theorem Wd{name:Tx}{w:Vr}(hw:bj vs name=some w)(T:w.ty<=2):w.ty=1\/w.ty=2:=by
 rcases KW (V w (qk hw).1)with h|h
 .exact h
 .omega
theorem Fh{name:Tx}{w:Vr}(hw:bj vs name=some w)(A2:w.arr=true){k:Int}(Y:¬(k<w.lo\/w.hi<k)):((bu vs name).1+(k-w.lo)).toNat<v/\0<=(bu vs name).1+(k-w.lo):=by
 have h:=Tt (cells:=v) V (by omega) hw A2;unfold AY fW ins at h;simp only[Ds,ac2]at h;omega
theorem anG{x:Ex}(U:XC vs x)(ih:∀y∈di x,GX L vs v y/\XC vs y):GX L vs v x:=by
 intro n X R C E S f A5 M;cases U with
 |@num k line h=>
  have e:(ai vs (.mk 1 k [] [] [] line)).1=[ins 1 0 0 k 0]:=by simp[ai]
  rw[e]at M⊢;rw[Gc];exact dG.one (M.head (by simp[ins])) (by simp[ins]) abP
 |@qX k line h=>
  have e:(ai vs (.mk 2 k [] [] [] line)).1=[ins 1 0 0 k 0]:=by simp[ai]
  rw[e]at M⊢;rw[Gd];exact dG.one (M.head (by simp[ins])) (by simp[ins]) abP
 |@var name line w hw A2 T=>
  have e:(ai vs (.mk 3 0 name [] [] line)).1=[ins (1+w.ty) (bu vs name).1 0 0 0]:=by simp[ai,eI hw]
  rw[e]at M⊢;rw[Ge,eI hw];have AC:=C6 V Z (u4 (cells:=v) V (by omega) hw (by simp[A2]) T);rcases Wd V Z hw T with h|h
  .rw[h]at M⊢;refine dG.one (M.head (by simp[ins])) (by simp[ins]) (V9.trans ?_);rw[sQ (by omega)];simp[zh]
  .rw[h]at M⊢;refine dG.one (M.head (by simp[ins])) (by simp[ins]) (aiR.trans ?_);rw[sQ (by omega)];simp[zh]
 |@idx name line w y hw A2 T A8 A9 ty=>
  have e:(ai vs (.mk 4 0 name [] [y] line)).1=(ai vs y).1++[ins (3+w.ty) (bu vs name).1 0 w.lo w.hi]:=by simp[ai,oQ,eI hw]
  rw[e]at M⊢;rw[Gf,eI hw];obtain⟨AA,_⟩:=ih y (by simp);have I:=AA n X R C E S f A5 M.left;have U:=M.last (by have:=Wd V Z hw T;simp[ins];omega);cases J:bN vs C y with
  |f A6=>rw[J]at I;exact I
  |v k t=>
   rw[J]at I;simp only[vV,A4];have D:dG L (mS (C++E) S n f) (mS (C++E) (S++[k]) (n+(ai vs y).1.length) f):=I;rw[show n+((ai vs y).1++[ins (3+w.ty) (bu vs name).1 0 w.lo w.hi]).length=n+(ai vs y).1.length+1 by simp;omega];rcases Wd V Z hw T with h|h
   .rw[h]at U⊢;have O:=D.trans (dG.one U (by simp[ins]) arl);by_cases Y:k<w.lo\/w.hi<k
    .rw[ac1 Y]at O⊢;exact⟨_,O,rfl,rfl,rfl⟩
    .rw[aaf Y]at O⊢;rw[sQ (by rw[A5];exact (Fh V Z hw A2 Y).1)]at O;simpa [MN,zh]using O
   .rw[h]at U⊢;have O:=D.trans (dG.one U (by simp[ins]) arn);by_cases Y:k<w.lo\/w.hi<k
    .rw[ac1 Y]at O⊢;exact⟨_,O,rfl,rfl,rfl⟩
    .rw[aaf Y]at O⊢;rw[sQ (by rw[A5];exact (Fh V Z hw A2 Y).1)]at O;simpa [MN,zh]using O
 |@GY name field line w q hw T AM A0=>
  obtain⟨q1,q2,j,q3,AZ⟩:=qM hw T AM;have AK:=nh (cells:=v) V (by omega) hw T;have e:(ai vs (.mk 5 0 name field [] line)).1=[ins (1+q.ty) (eH vs name field).1 0 0 0]:=by simp[ai,q1]
  rw[e]at M⊢;rw[Gg,q1];have AC:(eH vs name field).1.toNat<C.length:=by rw[q3];omega
  rcases P3 q2 with h|h
  .rw[h]at M⊢;refine dG.one (M.head (by simp[ins])) (by simp[ins]) (V9.trans ?_);rw[sQ AC];simp[zh]
  .rw[h]at M⊢;refine dG.one (M.head (by simp[ins])) (by simp[ins]) (aiR.trans ?_);rw[sQ AC];simp[zh]
 |@one op line y A1 A8 A9 ty=>
  obtain⟨AA,AP⟩:=ih y (by simp);have e:(ai vs (.mk op 0 [] [] [y] line)).1=(ai vs y).1++[ins 8 (if (ai vs y).2=true then 1 else 0) op 0 0]:=by
   rw[Gk (by omega)];simp[gO];try rfl
  rw[e]at M⊢;rw[Gi _ _ _ _ (by omega)];have I:=AA n X R C E S f A5 M.left;have U:=M.last (by simp[ins]);cases J:bN vs C y with
  |f A6=>rw[J]at I;exact I
  |v k t=>
   rw[J]at I;have Y:=Za AP J;have:=Qp I U (by simp[ins]) (anB A1);rw[show n+((ai vs y).1++[ins 8 (if (ai vs y).2=true then 1 else 0) op 0 0]).length=n+(ai vs y).1.length+1 by simp;omega];rw[<-Y]at this;have AD:decide ((if t=true then (1:Int)else 0)=1)=t:=by cases t<;>simp
   rw[AD]at this;exact this
 |@two op line y z A1 A8 A9 AN AO ty AR=>
  obtain⟨AA,AP⟩:=ih y (by simp);obtain⟨AT,cz⟩:=ih z (by simp);have e:(ai vs (.mk op 0 [] [] [y,z] line)).1=((ai vs y).1++(ai vs z).1)++[ins 8 (if (ai vs z).2=true then 1 else 0) op 0 0]:=by
   rw[Gk (by omega)];simp[gO];try rfl
  rw[e]at M⊢;rw[Gj _ _ _ _ _ (by omega)];have I:=AA n X R C E S f A5 M.left.left;have U:=M.last (by simp[ins]);have AU:=M.left.flat (jV z AN AO);cases J:bN vs C y with
  |f A6=>rw[J]at I;exact I
  |v k t=>
   rw[J]at I;have D:=AT _ X R C E (S++[k]) f A5 AU;simp only
   cases A3:bN vs C z with
   |f A6=>
    rw[A3]at D;obtain⟨t2,g1,g2,g3,g4⟩:=D;exact⟨t2,dG.trans I g1,g2,g3,g4⟩
   |v AV t2=>
    rw[A3]at D;have Y:=Za cz A3;have O:dG L (mS (C++E) S n f) (mS (C++E) (S++[k]++[AV]) (n+(ai vs y).1.length+(ai vs z).1.length) f):=dG.trans I D;rw[show n+(ai vs y).1.length+(ai vs z).1.length=n+((ai vs y).1++(ai vs z).1).length by simp;omega]at O;have:=Qp O U (by simp[ins]) (Wa (by omega));rw[show n+((ai vs y).1++(ai vs z).1++[ins 8 (if (ai vs z).2=true then 1 else 0) op 0 0]).length=n+((ai vs y).1++(ai vs z).1).length+1 by simp;omega];rw[<-Y]at this;have AD:decide ((if t2=true then (1:Int)else 0)=1)=t2:=by cases t2<;>simp
    rw[AD]at this;exact this
mutual
theorem qw:∀x:Ex,bm x=true->(aE vs x).e=0->GX L vs v x
 | .mk op n name field sub line,A0,he=>by
  have AB:=uX A0 he;have AQ:=(qL A0).2;have:=Tz sub AQ AB;exact anG V Z (qN A0 he) (λy J=>⟨this y J,qN ((fT _).1 AQ y J) (AB y J)⟩)
theorem Tz:∀l:List Ex,bI l=true->(∀y∈l,(aE vs y).e=0)->∀y∈l,GX L vs v y
 |[],_,_,y,J=>absurd J (adL)
 |x::r,A0,he,y,J=>by
  simp only[bI,Ds]at A0;rcases ac4.1 J with H|J
  .rw[H];exact qw x A0.1 (he x (by simp))
  .exact Tz r A0.2 (λz A3=>he z (by simp[A3])) y J
end
end
def Qq(x:ar):Prop:=wY x.n=true/\wY x.m=true
def gX(l:List ar):Prop:=∀x∈l,Qq x
def gX.nil:gX []:=λ_ h=>by simp at h
def gX.app{a b:List ar}(V:gX a)(D:gX b):gX (a++b):=λx H=>(ada.1 H).elim (V x) (D x)
def gX.cons{x:ar}{l:List ar}(H:Qq x)(O:gX l):gX (x::l):=λy T=>by
 rcases ac4.1 T with rfl|T
 .exact H
 .exact O y T
def gX.one{x:ar}(H:Qq x):gX [x]:=.cons H .nil
def lS{op a b:Int}:Qq (ins op a b 0 0):=⟨rfl,rfl⟩
def K4{f:ar->ar}(J:∀x,(f x).n=x.n/\(f x).m=x.m){l:List ar}(h:gX l):gX (l.map f):=λy T=>by
 obtain⟨x,H,rfl⟩:=adk.1 T;have:=h x H;unfold Qq at*;rw[(J x).1,(J x).2];exact this
def gX.mv{l:List ar}(h:gX l)(k:Nat):gX (jj k l):=K4 (λx=>by unfold pc;split<;>exact⟨rfl,rfl⟩) h
def gX.out{l:List ar}(h:gX l):gX (sm l):=K4 (λx=>by unfold uu;split<;>exact⟨rfl,rfl⟩) h
def gX.rt{l:List ar}(h:gX l)(k:Int):gX (l.map (n8 k)):=K4 (λx=>by unfold n8;split<;>exact⟨rfl,rfl⟩) h
def gX.jn{a b:List ar}(V:gX a)(D:gX b):gX (jn a b):=V.app (D.mv _)
def gX.ch:∀(ts bs:List (List ar)),(∀t∈ts,gX t)->(∀b∈bs,gX b)->gX (cF ts bs)
 |[],[],_,_=>by unfold cF;exact .nil
 |_::_,[],_,_=>by unfold cF;exact .nil
 |[],b::r,M,D=>by
  have ih:=gX.ch [] r M (λx H=>D x (by simp[H]));rw[F8];split
  .exact D b (by simp)
  .exact .jn ((D b (by simp)).app (.one lS)) ih
 |t::ts,b::r,M,D=>by
  have ih:=gX.ch ts r (λx H=>M x (by simp[H])) (λx H=>D x (by simp[H]));rw[cF];refine .jn (((M t (by simp)).app (.one lS)).app (.mv ?_ _)) ih;split
  .exact D b (by simp)
  .exact (D b (by simp)).app (.one lS)
def TB:∀(vs:List Vr)(s:Tx)(n:Int),(qo vs s n).2∈vs\/(qo vs s n).2=E7
 |[],_,_=>.inr rfl
 |v::r,s,n=>by
  unfold qo;split
  .exact .inl (by simp)
  .rcases TB r s (n+cB v)with h|h
   .exact .inl (by simp[h])
   .exact .inr h
section
variable {vs:List Vr} (I:∀w∈vs,dr w=true)
include I
theorem adY(s:Tx){op a b:Int}:Qq (ins op a b (bu vs s).2.lo (bu vs s).2.hi):=by
 unfold Qq ins bu wY;rcases TB vs s 0 with h|h
 .have J:=I _ h;simp only[dr,Ds]at J;have D:=J.2.2.1;split at D
  .have:=adI D;simp only[ac2];omega
  .have:=adI D;simp only[ac2];omega
 .rw[h];exact⟨rfl,rfl⟩
mutual
theorem yg:∀x:Ex,dt x=true->gX (ai vs x).1
 | .mk op n name field sub line,h=>by
  simp only[dt,Ds]at h;have Y:=HW sub h.2;have Z:=TC sub h.2;unfold ai;split
  .exact .one ⟨h.1,rfl⟩
  .split
   .exact .one lS
   .split
    .exact .one lS
    .split
     .exact Z.app (.one (adY I name))
     .exact Y.app (.one lS)
theorem HW:∀l:List Ex,da l=true->gX (gO vs l).1
 |[],_=>by unfold gO;exact .nil
 |[x],h=>by
  simp only[da,Ds]at h;unfold gO;exact yg x h.1
 |x::y::r,h=>by
  have A6:=h;simp only[da,Ds]at h;unfold gO;exact (yg x h.1).app (HW (y::r) (by simp only[da,Ds];exact h.2))
theorem TC:∀l:List Ex,da l=true->gX (oQ vs l)
 |[],_=>by unfold oQ;exact .nil
 |x::r,h=>by
  simp only[da,Ds]at h;unfold oQ;exact yg x h.1
end
omit I in
theorem Zb(c:Int):∀(m:Nat)(l:List Int),l.length<=m->l.all wY=true->gX (dy c l)
 |_,[],_,_=>by unfold dy;exact .nil
 |_,[_],_,_=>by unfold dy;exact .nil
 |0,_::_::_,hm,_=>by simp at hm
 |m+1,a::b::r,hm,h=>by
  simp only[ah7,Ds]at h;unfold dy;exact .cons ⟨h.1,h.2.1⟩ (.cons lS (Zb c m r (by simp at hm;omega) h.2.2))
theorem TD(name:Tx):∀(fs:List Tx)(xs:List Ex),da xs=true->gX (dC vs name fs xs)
 |[],xs,_=>by cases xs<;>(unfold dC;exact .nil)
 |_::_,[],_=>by unfold dC;exact .nil
 |f::fs,x::xs,h=>by
  simp only[da,Ds]at h;unfold dC;exact (yg I x h.1).app (.cons lS (TD name fs xs h.2))
omit I in
theorem afd{x:Ex}(h:dt x=true):da (di x)=true:=by
 obtain⟨op,n,name,field,sub,line⟩:=x;simp only[dt,Ds]at h;exact h.2
omit I in
theorem Ae:∀{l:List Ex},da l=true->∀x∈l,dt x=true
 |y::r,h,x,H=>by
  simp only[da,Ds]at h;rcases ac4.1 H with rfl|H
  .exact h.1
  .exact Ae h.2 x H
mutual
theorem afe:∀(s:Sm)(c:Int),ka s=true->gX (b8 vs s c).1
 | .mk op name to val conds A7 fields blocks line,c,h=>by
  simp only[ka,Ds]at h;obtain⟨Y,Z,A',A3,A1⟩:=h;have A2:=λc=>Qr blocks c A1;have A0:=λc=>aff blocks c A1;have U:=yg I val Z;have A4:∀t∈conds.map λx=>(ai vs x).1,gX t:=λt M=>by
   obtain⟨x,H,rfl⟩:=adk.1 M;exact yg I x (Ae A' x H)
  unfold b8;split
  .split
   .exact U.app (.one lS)
   .exact (TC I (di to) (afd Y)).app (U.app (.one (adY I _)))
  .split
   .exact .ch _ _ A4 (A2 c)
   .split
    .refine .jn (U.app (.one lS)) (.ch _ _ (λt M=>?_) (A2 _));obtain⟨l,O,rfl⟩:=adk.1 M;exact .cons lS (Zb c l.length l (aar _) (adp.1 A3 l O))
    .split
     .refine .jn ((HW I conds A').app (.cons lS (.cons lS (.one lS)))) ?_;unfold lI;exact gX.out (((gX.cons lS (.cons lS (.one lS))).app ((A0 _).mv _)).app (.cons lS (.cons lS (.cons lS (.cons lS (.one lS))))))
     .split
      .unfold iK;exact gX.out ((((gX.cons lS U).app (.one lS)).app ((A0 _).mv _)).app (.one lS))
      .split
       .unfold mK;exact gX.out (((A0 _).app (gX.cons lS U)).app (.one lS))
       .split
        .exact .one lS
        .split
         .exact .one lS
         .exact (TD I name fields conds A').app (.one lS)
theorem C7:∀(l:List Sm)(c:Int),gN l=true->gX (ag vs l c).1
 |[],c,_=>by unfold ag;exact .nil
 |x::r,c,h=>by
  simp only[gN,Ds]at h;unfold ag;exact .jn (.jn (.one lS) (afe x c h.1)) (C7 r _ h.2)
theorem Qr:∀(l:List (List Sm))(c:Int),fJ l=true->∀b∈(ay vs l c).1,gX b
 |[],c,_,b,D=>by simp[ay]at D
 |x::r,c,h,b,D=>by
  simp only[fJ,Ds]at h;unfold ay at D;rcases ac4.1 D with rfl|D
  .exact C7 x c h.1
  .exact Qr r _ h.2 b D
theorem aff:∀(l:List (List Sm))(c:Int),fJ l=true->gX (lJ vs l c).1
 |[],c,_=>by unfold lJ;exact .nil
 |x::r,c,h=>by
  simp only[fJ,Ds]at h;unfold lJ;exact C7 x c h.1
end
end
def afg{p:Pg}(J:lH p=true)(O:gN p.body=true)(A5:(lB p).1=0){g:List ar×Int×Int}(h:sn p=some g):gX g.1:=by
 unfold sn at h;simp only at h;split at h
 .cases h
 .cases h;simp only[lH,Ds,adp]at J;have D:=sK false p.body J.2.2.2 O (bM.1 A5).2;exact ((C7 J.2.2.1 _ _ D.2.1).rt _).app (.one lS)
end Go.Am
end
