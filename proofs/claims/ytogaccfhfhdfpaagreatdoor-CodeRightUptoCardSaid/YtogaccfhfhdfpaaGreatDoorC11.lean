/-
  Texts of one proof, one behind the other.
-/
import Derived.Test.YtogaccfhfhdfpaaGreatDoorC1
import Derived.Test.YtogaccfhfhdfpaaGreatDoorC2
import Derived.Test.YtogaccfhfhdfpaaGreatDoorC3
import Derived.Test.YtogaccfhfhdfpaaGreatDoorC4
import Derived.Test.YtogaccfhfhdfpaaGreatDoorC5
import Derived.Test.YtogaccfhfhdfpaaGreatDoorC6
import Derived.Test.YtogaccfhfhdfpaaGreatDoorC7
import Derived.Test.YtogaccfhfhdfpaaGreatDoorC8
import Derived.Test.YtogaccfhfhdfpaaGreatDoorC10
import Derived.Test.YtogaccfhfhdfpaaGreatDoorProg
import Derived.Shelf.Lays
import Derived.KernelRfl
set_option linter.all false
section
namespace Go.Am
open Go Go.Proofs Go.Proofs.Tryz
variable [Inhabited bP]
set_option maxRecDepth 100000
set_option maxHeartbeats 8000000
def rU(b:Bool):ak ctx 156 [.d (.bool b)] []=some (.ret (.d (.int .i64 (ei b))),[]):=by
 rw[agW (by simp)];cases b<;>simp[f156,ei]
@[simp] def wr0:IntKind.i64.wrap 0=0:=rfl
@[simp] def wr1:IntKind.i64.wrap 1=1:=rfl
@[simp] def wr2:IntKind.i64.wrap 2=2:=rfl
@[simp] def wr3:IntKind.i64.wrap 3=3:=rfl
@[simp] def wr4:IntKind.i64.wrap 4=4:=rfl
@[simp] def avM:IntKind.i64.wrap (-1)= -1:=rfl
@[simp] def wu0:IntKind.u64.wrap 0=0:=rfl
@[simp] def wu1:IntKind.u64.wrap 1=1:=rfl
def XA(op a:Int)(t:Bool)(D:dE a)(y:t=true->a=0\/a=1):ak ctx 164 [.d (.int .i64 op),.d (.int .i64 a),.d (.bool t)] []=some (.ret (KU (mC op a t)),[]):=by
 have V:=Pu 0 a (by unfold dE;omega) D;rw[agY (by simp)];unfold mC;generalize gj (0-a)=p at*;cases t
 .by_cases Z:op=6
  .simp at V;cases E:p.2<;>simp[f164,Z,E,V,oA]
  .simp[f164,Z,gC]
 .rcases y rfl with rfl|rfl<;>by_cases M:op=7
  .simp[f164,M,ei,wr0,wr1]
  .simp[f164,M,gC]
  .simp[f164,M,ei,wr0,wr1]
  .simp[f164,M,gC]
def Px(op a b:Int)(D:a=0\/a=1)(H:b=0\/b=1):ak ctx 165 [.d (.int .i64 op),.d (.int .i64 a),.d (.int .i64 b)] []=some (.ret (KU (Gu op a b)),[]):=by
 have A':BS .i64 0 0=0:=by decide
 have A0:BS .i64 0 1=0:=by decide
 have A1:BS .i64 1 0=0:=by decide
 have A2:BS .i64 1 1=1:=by decide
 have A3:Pv .i64 0 0=0:=by decide
 have A4:Pv .i64 0 1=1:=by decide
 have A5:Pv .i64 1 0=1:=by decide
 have A6:Pv .i64 1 1=1:=by decide
 rw[agZ (by simp)];unfold Gu;have J:op=13\/op=14\/op=20\/op=19\/op=21\/(op≠13/\op≠14/\op≠20/\op≠19/\op≠21):=by omega
 rcases D with rfl|rfl<;>rcases H with rfl|rfl<;>rcases J with rfl|rfl|rfl|rfl|rfl|⟨A7,A8,I,A9,AA⟩<;>
  simp[f165,rU, -fY.eq_6, -fY.eq_7,I9,Xy,ei,gC, *]
def Py(op a b:Int)(h:13<=op/\op<=18):ak ctx 167 [.d (.int .i64 op),.d (.int .i64 a),.d (.int .i64 b)] []=some (.ret (KU (DE op a b)),[]):=by
 rw[ag1 (by simp)];unfold DE;have J:op=13\/op=14\/op=15\/op=16\/op=17\/op=18:=by omega
 rcases J with rfl|rfl|rfl|rfl|rfl|rfl<;>simp[f167,rU,bne]
def Pz(op a b:Int)(h:8<=op/\op<=12)(D:dE a)(H:dE b):ak ctx 166 [.d (.int .i64 op),.d (.int .i64 a),.d (.int .i64 b)] []=some (.ret (KU (DE op a b)),[]):=by
 have q1:=ZM a b D H;have q2:=Pu a b D H;have q3:=ZN a b D H;have N:=ZO a b D H;have O:=ZP a b D H;have J:op=8\/op=9\/op=10\/op=11\/op=12:=by omega
 rw[ag0 (by simp)];unfold DE;generalize gj (a+b)=f1 at*;generalize gj (a-b)=f2 at*;generalize gj (a*b)=f3 at*;generalize sV a b=f4 at*;generalize zu a b=f5 at*;simp at q1 q2 q3 N O;rcases J with rfl|rfl|rfl|rfl|rfl
 .cases E:f1.2<;>simp[f166,q1,E,oA]
 .cases E:f2.2<;>simp[f166,q2,E,oA]
 .cases E:f3.2<;>simp[f166,q3,E,oA]
 .by_cases I:f4.2=3
  .simp[f166,N,I,m9]
  .by_cases U:f4.2=0<;>simp[f166,N,U,I,m9]
 .by_cases I:f5.2=3
  .simp[f166,O,I,m9]
  .by_cases U:f5.2=0<;>simp[f166,O,U,I,m9]
def QJ(op a:Int)(t:Bool)(M:dE a):ak ctx 109 [.d (.int .i64 op),.d (.list [.int .i64 a]),.d (.bool t)] []=some (.ret (KU (mC op a t)),[]):=by
 rw[WX (by simp)];by_cases H:t=true/\a≠0/\a≠1
 .obtain⟨rfl,U,D⟩:=H;simp[f109];rw[ag];simp[U,D,mC,gC]
 .have D:=XA op a t M (by intro h;subst h;simp at H;omega);have V:(t&&(a != 0))=true->a=1:=by simp;intro D E;simp[D]at H;exact H E
  generalize mC op a t=p at*;simp at D;cases t
  .simp[f109];rw[ag];simp;rw[ag];simp[D]
  .have Z:a=0\/a=1:=by simp at V;omega
   rcases Z with rfl|rfl
   .simp[f109];rw[ag];simp;rw[ag];simp[D]
   .simp[f109];rw[ag];simp;rw[ag];simp[D]
def QK(op a b:Int)(t:Bool)(M:dE a)(H:dE b):ak ctx 109 [.d (.int .i64 op),.d (.list [.int .i64 a,.int .i64 b]),.d (.bool t)] []=some (.ret (KU (nZ op a b t)),[]):=by
 rw[WX (by simp)];have cmp:=λh=>Py op a b h;have y:=λh=>Pz op a b h M H;have sk:=λD E=>Px op a b D E;unfold nZ;cases t
 .have A':¬(8<=op/\op<=12)->¬(13<=op/\op<=18)->DE op a b=gC:=by
   intro D E;unfold DE;simp only[show ¬op=8 by omega,show ¬op=9 by omega,show ¬op=10 by omega,show ¬op=11 by omega,show ¬op=12 by omega,show ¬op=13 by omega,show ¬op=14 by omega,show ¬op=15 by omega,show ¬op=16 by omega,show ¬op=17 by omega,show ¬op=18 by omega,abc]
  generalize DE op a b=p at*;simp[f109];rw[ag];simp;rw[ag];simp;rw[ag];simp;by_cases D:8<=op/\op<=12
  .have r:=y D;simp at r;simp[D.1,D.2,r,ai]
  .by_cases E:13<=op/\op<=18
   .have r:=cmp E;have I:¬op<=12:=by omega
    have J:8<=op:=by omega
    simp at r;simp[E.1,E.2,I,J,r,ai]
   .have A0:=A' D E;subst A0;by_cases O:8<=op
    .have A1:¬op<=12:=by omega
     have N:13<=op:=by omega
     have A2:¬op<=18:=by omega
     simp[O,A1,N,A2,gC]
    .have N:¬13<=op:=by omega
     simp[O,N,gC]
 .by_cases D:a=0\/a=1
  .by_cases E:b=0\/b=1
   .have r:=sk D E;generalize Gu op a b=p at*;rcases D with rfl|rfl<;>rcases E with rfl|rfl<;>
     (simp at r
      simp[f109];rw[ag];simp;rw[ag];simp;rw[ag];simp[r,ai])
   .have I:¬b=0:=by omega
    have J:¬b=1:=by omega
    rcases D with rfl|rfl<;>
     (simp[f109]
      rw[ag];simp;rw[ag];simp[I,J,gC])
  .have I:¬a=0:=by omega
   have J:¬a=1:=by omega
   simp[f109];rw[ag];simp[I,J,gC]
def xB(o:Option (Int×Bool)):Out:=match o with|some c=>.ret (.bh [.d (.int .i64 c.1),.d (.bool c.2),.d (.bool true)])|none=>.ret (.bh [.d (.int .i64 0),.d (.bool false),.d (.bool false)])
def XB(n:Int)(t:Bool)(line:Int):ak ctx 157 [.d (.int .i64 n),.d (.bool t),.d (.int .i64 line)] []=some (.ret (.d (bJ (jX n t line))),[]):=by
 rw[agX (by simp)];cases t with
 |true=>simp[f157,jX,bJ,iu]
 |false=>
  by_cases h:0<=n
  .simp[f157,jX,bJ,iu,h]
  .simp[f157,jX,bJ,iu,h,DO]
def ET(x:Ex):ak ctx 155 [.d (bJ x)] []=some (xB (en x),[]):=by
 obtain⟨op,n,name,field,sub,line⟩:=x;rw[agV (by simp)];simp[f155,aw];by_cases D:op=1
 .subst D;simp[en,xB]
 by_cases E:op=2
 .subst E;simp[en,xB]
 by_cases H:op=6
 .subst H;match sub with
  |[]=>simp[en,xB]
  |[y]=>
   by_cases I:bO y=1
   .simp[en,xB,I,aw,DO]
   .simp[en,xB,I,aw]
  |y::z::r=>
   have J:¬((r.length:Int)+1+1=1):=by omega
   simp[en,xB,J]
 .simp[en,xB,D,E,H]
def yI(y:Ex):Prop:=ak ctx 100 [.d (bJ y)] []=some (.ret (.d (bJ (cC y))),[])
def PA(l:List Ex)(M:l.length<100000000)(A B:cL)(A4:A.key=150)(A5:B.key=200)(O U:aE)(k:Kt)(Q:List Ex->bU->Prop)
 (I:∀(Y:Env)(out:List Ex) v v3 D,Q out (k (.exit 0) ⟨105,aC,(1,true,.ptr 150 1 0)::(2,true,.ptr 200 1 0)::(3,true,.vec 250 v 0 out.length)::Y,[A,B,⟨250,v,.vec 6 (out.map bJ)⟩,⟨350,v3,D⟩,⟨550,0,O⟩,⟨700,0,U⟩]⟩)):
 ∀(rest pre out:List Ex)(v v3:Nat)(D:aE),l=pre++rest->out.length=pre.length->(∀y∈rest,yI y)->
 Q (out++cx rest) (aK ctx 100 (.loop (Code.at (aU f100) [1,1,0,1,0,0])) ⟨105,aC,[(1,true,.ptr 150 1 0),(2,true,.ptr 200 1 0),(3,true,.vec 250 v 0 out.length),(20,true,.d (.list (l.map bJ))),(21,true,.d (.int .i64 l.length)),(22,true,.d (.int .i64 pre.length))],[A,B,⟨250,v,.vec 6 (out.map bJ)⟩,⟨350,v3,D⟩,⟨550,0,O⟩,⟨700,0,U⟩]⟩ k)
 |[],pre,out,v,v3,D,E,N,H=>by
  have V:pre.length=l.length:=by rw[E];simp
  have:=I [(20,true,.d (.list (l.map bJ))),(21,true,.d (.int .i64 l.length)),(22,true,.d (.int .i64 l.length)),(23,true,.d (.bool false))] out v v3 D;simp[cx]at this⊢;rw[V,ag];simp[f100,this]
 |x::rest,pre,out,v,v3,D,E,N,H=>by
  have Z:pre.length<l.length:=by rw[E];simp
  have A':l[pre.length]=x:=by simp[E]
  have J:=H x (by simp);unfold yI at J;have ih:=λv v3 D=>PA l M A B A4 A5 O U k Q I rest (pre++[x]) (out++[cC x]) v v3 D (by simp[E]) (by simp[N]) (λy A0=>H y (by simp[A0]));have A1:=bu ((pre.length:Int)+1);have A2:out.length<=4611686018427387903:=by omega
  have A3:(out.length+1)*80<=140737488355328:=by omega
  have e:out++cx (x::rest)=out++[cC x]++cx rest:=by simp[cx]
  rw[e,ag];generalize cC x=A7 at*;simp[f100,aw]at ih J⊢;simp[Z,A',A4,A5,aw,J,A1,A2,A3,ih]
def PB(l:List Ex)(M:l.length<100000000)(k:Kt)(Q:List Ex->bU->Prop)
 (I:∀(Y:Env)(out:List Ex) v v3 D,Q out (k (.exit 0) ⟨19,aC,(3,true,.vec 250 v 0 out.length)::Y,[⟨250,v,.vec 6 (out.map bJ)⟩,⟨350,v3,D⟩]⟩)):
 ∀(rest pre out:List Ex)(v v3:Nat)(D:aE),l=pre++rest->out.length=pre.length->(∀y∈rest,yI y)->
 Q (out++cx rest) (aK ctx 101 (.loop (Code.at (aU f101) [1,1,0,1,0,0])) ⟨19,aC,[(3,true,.vec 250 v 0 out.length),(6,true,.d (.list (l.map bJ))),(7,true,.d (.int .i64 l.length)),(8,true,.d (.int .i64 pre.length))],[⟨250,v,.vec 6 (out.map bJ)⟩,⟨350,v3,D⟩]⟩ k)
 |[],pre,out,v,v3,D,E,N,H=>by
  have V:pre.length=l.length:=by rw[E];simp
  have:=I [(6,true,.d (.list (l.map bJ))),(7,true,.d (.int .i64 l.length)),(8,true,.d (.int .i64 l.length)),(9,true,.d (.bool false))] out v v3 D;simp[cx]at this⊢;rw[V,ag];simp[f101,this]
 |x::rest,pre,out,v,v3,D,E,N,H=>by
  have Z:pre.length<l.length:=by rw[E];simp
  have A':l[pre.length]=x:=by simp[E]
  have J:=H x (by simp);unfold yI at J;have ih:=λv v3 D=>PB l M k Q I rest (pre++[x]) (out++[cC x]) v v3 D (by simp[E]) (by simp[N]) (λy A0=>H y (by simp[A0]));have A1:=bu ((pre.length:Int)+1);have A2:out.length<=4611686018427387903:=by omega
  have A3:(out.length+1)*80<=140737488355328:=by omega
  have e:out++cx (x::rest)=out++[cC x]++cx rest:=by simp[cx]
  rw[e,ag];generalize cC x=A7 at*;simp[f101,aw]at ih J⊢;simp[Z,A',aw,J,A1,A2,A3,ih]
def ZQ(l:List Ex)(M:l.length<100000000)(H:∀y∈l,yI y):ak ctx 101 [.d (.list (l.map bJ))] []=some (.ret (.d (.list ((cx l).map bJ))),[]):=by
 have A6:=λk Q I v v3 D=>PB l M k Q I l [] [] v v3 D rfl rfl H;rw[agx (by simp)];simp[f101]at A6⊢;refine A6 _ (λout r=>out=cx l->r=some (.ret (.d (.list ((cx l).map bJ))),[])) (λY out v v3 D h=>?_) _ _ _ rfl;subst h;simp
def aiI{α:Type}{l:List α}(h:l.length=2):∃a b,l=[a,b]:=by
 match l,h with
 |[a,b],_=>exact⟨a,b,rfl⟩
def aiJ{op n line:Int}{name field:Tx}{sub:List Ex}(AD:sub.length<100000000)(A7:6<=op->sub.length=1\/sub.length=2)(A8:∀y∈sub,yI y)(A9:∀y∈sub,∀c,en (cC y)=some c->dE c.1):yI (.mk op n name field sub line):=by
 have A5:=λA B AE AF AG AH k Q AI v v3 AC=>PA sub AD A B AE AF AG AH k Q AI sub [] [] v v3 AC rfl rfl A8;unfold yI;have e:cC (.mk op n name field sub line)=im (.mk op n name field (cx sub) line):=by simp[cC]
 rw[e];have A1:∀y∈cx sub,∀c,en y=some c->dE c.1:=by
  rw[j6];intro y D;obtain⟨z,J,rfl⟩:=aaD.1 D;exact A9 z J
 have AA:6<=op->(cx sub).length=1\/(cx sub).length=2:=by rw[j6];simpa using A7
 obtain⟨R,H⟩:∃R,R=bJ (im (.mk op n name field (cx sub) line)):=⟨_,rfl⟩;rw[<-H,agw (by simp)];simp[f100,aw]at A5⊢;refine A5 _ _ ?_ ?_ _ _ _ (λout r=>out=cx sub->r=some (.ret (.d R),[])) (λY out v v3 AC h=>?_) _ _ _ rfl
 .rfl
 .rfl
 subst h;generalize cx sub=out at*;have Z:=ET (.mk op n name field out line);by_cases A':op<6
 .have M:im (.mk op n name field out line)=.mk op n name field out line:=by simp[im,A']
  rw[M]at H;subst H;simp[f100,A',aw]
 cases A2:en (.mk op n name field out line)with
 |some c=>
  have M:im (.mk op n name field out line)=.mk op n name field out line:=by simp[im,A2]
  rw[M]at H;subst H;rw[A2]at Z;simp[aw]at Z;simp[f100,A',aw,Z,xB]
 |none=>
  rw[A2]at Z;rcases AA (by omega)with AJ|AK
  .obtain⟨y,rfl⟩:=DQ AJ;have D:=ET y;simp[aw,xB]at Z D;simp[f100,A',aw,Z];rw[ag];cases O:en y with
   |none=>
    have M:im (.mk op n name field [y] line)=.mk op n name field [y] line:=by simp[im,kP,O]
    rw[M]at H;subst H;rw[O]at D;simp at D;simp[aw,D]
   |some c=>
    obtain⟨a,t⟩:=c;have AB:dE a:=A1 y (by simp) _ O;have E:=rU t;have I:=QJ op a t AB;rw[O]at D;simp at D;have M:im (.mk op n name field [y] line)=if (mC op a t).2.2≠0\/((mC op a t).2.1=false/\(mC op a t).1= -9223372036854775808)then .mk op n name field [y] line else jX (mC op a t).1 (mC op a t).2.1 line:=by
     simp[im,kP,O,A2,Fy,A']
    rw[M]at H;generalize mC op a t=q at*;obtain⟨q1,q2,q3⟩:=q;have hm:=XB q1 q2 line;simp only at H I;have A3:(q3≠0/\R=bJ (.mk op n name field [y] line))\/(q3=0/\q2=false/\q1= -9223372036854775808/\R=bJ (.mk op n name field [y] line))\/(∃e,R=bJ e/\q3=0/\q2=false/\q1≠ -9223372036854775808/\ak ctx 157 [.d (.int .i64 q1),.d (.bool q2),.d (.int .i64 line)] []=some (.ret (.d (bJ e)),[]))\/(∃e,R=bJ e/\q3=0/\q2=true/\ak ctx 157 [.d (.int .i64 q1),.d (.bool q2),.d (.int .i64 line)] []=some (.ret (.d (bJ e)),[])):=by
     by_cases N:q3≠0\/(q2=false/\q1= -9223372036854775808)
     .rw[aav N]at H;rcases N with h|h
      .exact .inl ⟨h,H⟩
      .by_cases A4:q3=0
       .exact .inr (.inl ⟨A4,h.1,h.2,H⟩)
       .exact .inl ⟨A4,H⟩
     .rw[aaf N]at H;simp only[amG,not_and,Classical.not_not]at N;cases q2 with
      |true=>exact .inr (.inr (.inr ⟨_,H,N.1,rfl,hm⟩))
      |false=>exact .inr (.inr (.inl ⟨_,H,N.1,rfl,N.2 rfl,hm⟩))
    clear H hm A1 A9 A8 A5 A7 AA;cases t
    .simp[ei]at E I;rcases A3 with ⟨U,H⟩|⟨rfl,rfl,rfl,H⟩|⟨e,rfl,rfl,rfl,V,hm⟩|⟨e,rfl,rfl,rfl,hm⟩
     .subst H;simp[aw,D,E,I,U];rw[ag];simp[aw,D,E,I,U]
     .subst H;simp[aw,D,E,I];rw[ag];simp[aw,D,E,I]
     .simp[aw]at hm;simp[aw,D,E,I,V,hm];rw[ag];simp[aw,D,E,I,V,hm]
     .simp[aw]at hm;simp[aw,D,E,I,hm];rw[ag];simp[aw,D,E,I,hm]
    .simp[ei]at E I;rcases A3 with ⟨U,H⟩|⟨rfl,rfl,rfl,H⟩|⟨e,rfl,rfl,rfl,V,hm⟩|⟨e,rfl,rfl,rfl,hm⟩
     .subst H;simp[aw,D,E,I,U];rw[ag];simp[aw,D,E,I,U]
     .subst H;simp[aw,D,E,I];rw[ag];simp[aw,D,E,I]
     .simp[aw]at hm;simp[aw,D,E,I,V,hm];rw[ag];simp[aw,D,E,I,V,hm]
     .simp[aw]at hm;simp[aw,D,E,I,hm];rw[ag];simp[aw,D,E,I,hm]
  .obtain⟨y,z,rfl⟩:=aiI AK;have D:=ET y;have J:=ET z;simp[aw,xB]at Z D J;simp[f100,A',aw,Z];rw[ag];cases O:en y with
   |none=>
    have M:im (.mk op n name field [y,z] line)=.mk op n name field [y,z] line:=by simp[im,kP,O]
    rw[M]at H;subst H;rw[O]at D;simp at D;simp[aw,D]
   |some c=>
    obtain⟨a,t⟩:=c;have AB:dE a:=A1 y (by simp) _ O;have E:=rU t;rw[O]at D;simp at D;cases A0:en z with
    |none=>
     have M:im (.mk op n name field [y,z] line)=.mk op n name field [y,z] line:=by simp[im,kP,O,A0]
     rw[M]at H;subst H;rw[A0]at J;simp at J E;simp[aw,D,E];rw[ag];simp[aw,J]
    |some d=>
     obtain⟨b,u⟩:=d;have AL:dE b:=A1 z (by simp) _ A0;have hu:=rU u;rw[A0]at J;simp at J;by_cases A6:t=u
     .subst A6;have I:=QK op a b t AB AL;have M:im (.mk op n name field [y,z] line)=if (nZ op a b t).2.2≠0\/((nZ op a b t).2.1=false/\(nZ op a b t).1= -9223372036854775808)then .mk op n name field [y,z] line else jX (nZ op a b t).1 (nZ op a b t).2.1 line:=by
       simp[im,kP,O,A0,A2,Fy,A']
      rw[M]at H;generalize nZ op a b t=q at*;obtain⟨q1,q2,q3⟩:=q;have hm:=XB q1 q2 line;simp only at H I;have A3:(q3≠0/\R=bJ (.mk op n name field [y,z] line))\/(q3=0/\q2=false/\q1= -9223372036854775808/\R=bJ (.mk op n name field [y,z] line))\/(∃e,R=bJ e/\q3=0/\q2=false/\q1≠ -9223372036854775808/\ak ctx 157 [.d (.int .i64 q1),.d (.bool q2),.d (.int .i64 line)] []=some (.ret (.d (bJ e)),[]))\/(∃e,R=bJ e/\q3=0/\q2=true/\ak ctx 157 [.d (.int .i64 q1),.d (.bool q2),.d (.int .i64 line)] []=some (.ret (.d (bJ e)),[])):=by
       by_cases N:q3≠0\/(q2=false/\q1= -9223372036854775808)
       .rw[aav N]at H;rcases N with h|h
        .exact .inl ⟨h,H⟩
        .by_cases A4:q3=0
         .exact .inr (.inl ⟨A4,h.1,h.2,H⟩)
         .exact .inl ⟨A4,H⟩
       .rw[aaf N]at H;simp only[amG,not_and,Classical.not_not]at N;cases q2 with
        |true=>exact .inr (.inr (.inr ⟨_,H,N.1,rfl,hm⟩))
        |false=>exact .inr (.inr (.inl ⟨_,H,N.1,rfl,N.2 rfl,hm⟩))
      clear H hm A1 A9 A8 A5 A7 AA;cases t
      .simp[ei]at E I;rcases A3 with ⟨U,H⟩|⟨rfl,rfl,rfl,H⟩|⟨e,rfl,rfl,rfl,V,hm⟩|⟨e,rfl,rfl,rfl,hm⟩
       .subst H;simp[aw,D,J,E,I,U];rw[ag];simp[aw,D,J,E,I,U];rw[ag];simp[aw,D,J,E,I,U]
       .subst H;simp[aw,D,J,E,I];rw[ag];simp[aw,D,J,E,I];rw[ag];simp[aw,D,J,E,I]
       .simp[aw]at hm;simp[aw,D,J,E,I,V,hm];rw[ag];simp[aw,D,J,E,I,V,hm];rw[ag];simp[aw,D,J,E,I,V,hm]
       .simp[aw]at hm;simp[aw,D,J,E,I,hm];rw[ag];simp[aw,D,J,E,I,hm];rw[ag];simp[aw,D,J,E,I,hm]
      .simp[ei]at E I;rcases A3 with ⟨U,H⟩|⟨rfl,rfl,rfl,H⟩|⟨e,rfl,rfl,rfl,V,hm⟩|⟨e,rfl,rfl,rfl,hm⟩
       .subst H;simp[aw,D,J,E,I,U];rw[ag];simp[aw,D,J,E,I,U];rw[ag];simp[aw,D,J,E,I,U]
       .subst H;simp[aw,D,J,E,I];rw[ag];simp[aw,D,J,E,I];rw[ag];simp[aw,D,J,E,I]
       .simp[aw]at hm;simp[aw,D,J,E,I,V,hm];rw[ag];simp[aw,D,J,E,I,V,hm];rw[ag];simp[aw,D,J,E,I,V,hm]
       .simp[aw]at hm;simp[aw,D,J,E,I,hm];rw[ag];simp[aw,D,J,E,I,hm];rw[ag];simp[aw,D,J,E,I,hm]
     .have M:im (.mk op n name field [y,z] line)=.mk op n name field [y,z] line:=by simp[im,kP,O,A0,Fy,A6]
      rw[M]at H;subst H;cases t<;>cases u
      .exact absurd rfl A6
      .simp[ei]at E hu;simp[aw,D,J,E,hu];rw[ag];simp[aw,D,J,E,hu];rw[ag];simp[aw,D,J,E,hu]
      .simp[ei]at E hu;simp[aw,D,J,E,hu];rw[ag];simp[aw,D,J,E,hu];rw[ag];simp[aw,D,J,E,hu]
      .exact absurd rfl A6
def XF{vs:List Vr}{x:Ex}(D:bE x=true)(he:(aJ vs x).e=0):∀y∈da x,(aJ vs y).e=0:=by
 cases Ao D he with
 |num h=>simp
 |sk h=>simp
 |var O A0 U=>simp
 |idx O A0 U V M ty=>simpa using M
 |Rx O U A6 D=>simp
 |one A1 V M ty=>simpa using M
 |two A1 V M A7 A2 ty A8=>simpa using ⟨M,A2⟩
mutual
def rV{vs:List Vr}:∀x:Ex,bE x=true->eU x=true->(aJ vs x).e=0->yI x
 | .mk op n name field sub line,D,I,he=>by
  have J:=XF D he;simp only[pW]at J;have A9:=D;simp only[bE,Ds,aaw]at D;simp only[eU,Ds]at I;have H:=D.2.1;unfold dW at H;have Z:=D.2.2.2.2;have A':=I.2;refine aiJ (by split at H<;>(try split at H)<;>omega) (λA3=>by
   by_cases h:op=4\/op=6\/op=7
   .rw[aav h]at H;exact .inl H
   .rw[aaf h,aav (by omega)]at H;exact .inr H) (EU sub Z A' J) (λy E c A4=>?_)
  have N:=BF y ((gT _).1 Z y E) ((qM _).1 A' y E) (J y E);have:=(Oi A4 N.1 N.2.1 (by rw[N.2.2.1];exact J y E)).2;unfold dE;omega
def EU{vs:List Vr}:∀l:List Ex,bY l=true->eu l=true->(∀y∈l,(aJ vs y).e=0)->∀y∈l,yI y
 |[],_,_,_,y,E=>absurd E (aaH)
 |x::r,D,I,he,y,E=>by
  simp only[bY,Ds]at D;simp only[eu,Ds]at I;rcases aam.1 E with h|h
  .rw[h];exact rV x D.1 I.1 (he x (by simp))
  .exact EU r D.2 I.2 (λz A5=>he z (by simp[A5])) y h
end
def kA{x:Ex}(h:ek x=true):yI x:=by
 obtain⟨op,n,name,field,sub,line⟩:=x;have h:(decide (op=0)&&(decide (n=0)&&decide (name.length+field.length+sub.length=0)))=true:=h;simp only[Ds,aaw]at h;have J:sub=[]:=aaB (by omega);have AA:=h.1;subst J;exact aiJ (by simp) (λA3=>by omega) (λy E=>absurd E (aaH)) (λy E=>absurd E (aaH))
def KG(b:List Sm):Prop:=ak ctx 56 [.d (.list (b.map bZ))] []=some (.ret (.d (.list ((cy b).map bZ))),[])
def KH(x:Sm):Prop:=ak ctx 100 [.d (bJ (dJ x))] []=some (.ret (.d (bJ (cC (dJ x)))),[])/\ak ctx 100 [.d (bJ (dq x))] []=some (.ret (.d (bJ (cC (dq x)))),[])/\ak ctx 101 [.d (.list ((bS x).map bJ))] []=some (.ret (.d (.list ((cx (bS x)).map bJ))),[])/\(aV x).length<100000000/\∀b∈aV x,KG b
def Sg(l:List (List Sm))(U:l.length<100000000)(N V O:Nat)(Z:List D)(cs:List AV)(A3:∀v aq,cs.map (mu 400 v aq)=cs)(a9 A' A0:D)(k:Kt)(Q:List (List Sm)->bU->Prop)
 (J:∀(Y:Env)(out:List (List Sm)) v,Q out (k (.exit 2) ⟨48,aC,(3,true,.vec 250 N 0 V)::(5,true,.ptr 350 O 0)::(6,true,.d (.list (out.map dr)))::(9,true,.d a9)::(10,true,.d A')::(11,true,.d A0)::Y,[⟨250,N,.vec 19 Z⟩,⟨350,O,.box cs⟩,⟨400,v,.dead⟩]⟩)):
 ∀(rest pre out:List (List Sm))(v:Nat),l=pre++rest->out.length=pre.length->(∀b∈rest,KG b)->
 Q (out++gS rest) (aK ctx 56 (.loop (Code.at (aU f56) [1,1,0,1,0,0,1,1,0,0,1,1,1,0,1,0,0])) ⟨48,aC,[(3,true,.vec 250 N 0 V),(5,true,.ptr 350 O 0),(6,true,.vec 400 v 0 out.length),(9,true,.d a9),(10,true,.d A'),(11,true,.d A0),(28,true,.d (.list (l.map dr))),(29,true,.d (.int .i64 l.length)),(30,true,.d (.int .i64 pre.length))],[⟨250,N,.vec 19 Z⟩,⟨350,O,.box cs⟩,⟨400,v,.vec 1 (out.map dr)⟩]⟩ k)
 |[],pre,out,v,E,A1,M=>by
  have A4:pre.length=l.length:=by rw[E];simp
  have:=J [(28,true,.d (.list (l.map dr))),(29,true,.d (.int .i64 l.length)),(30,true,.d (.int .i64 l.length)),(31,true,.d (.bool false))] out (v+1);simp[gS]at this⊢;rw[A4,ag];simp[f56,A3,this]
 |b::rest,pre,out,v,E,A1,M=>by
  have A5:pre.length<l.length:=by rw[E];simp
  have A6:l[pre.length]=b:=by simp[E]
  have A7:=M b (by simp);unfold KG at A7;have ih:=λv=>Sg l U N V O Z cs A3 a9 A' A0 k Q J rest (pre++[b]) (out++[cy b]) v (by simp[E]) (by simp[A1]) (λy A8=>M y (by simp[A8]));have A9:=bu ((pre.length:Int)+1);have AA:out.length<=4611686018427387903:=by omega
  have AB:(out.length+1)*24<=140737488355328:=by omega
  have e:out++gS (b::rest)=out++[cy b]++gS rest:=by simp[gS]
  rw[e,ag];generalize cy b=AM at*;simp[f56,dr]at ih A7⊢;simp[A5,A6,dr,A7,A9,AA,AB,ih]
def Si(l:List Sm)(U:l.length<100000000)(k:Kt)(Q:List Sm->bU->Prop)
 (J:∀(Y:Env)(out:List Sm) v v3 H v4 I,Q out (k (.exit 0) ⟨48,aC,(3,true,.vec 250 v 0 out.length)::Y,[⟨250,v,.vec 19 (out.map bZ)⟩,⟨350,v3,H⟩,⟨400,v4,I⟩]⟩)):
 ∀(rest pre out:List Sm)(v v3:Nat)(H:aE)(v4:Nat)(I:aE),l=pre++rest->out.length=pre.length->(∀x∈rest,KH x)->
 Q (out++cy rest) (aK ctx 56 (.loop (Code.at (aU f56) [1,1,0,1,0,0])) ⟨48,aC,[(3,true,.vec 250 v 0 out.length),(9,true,.d (.list (l.map bZ))),(10,true,.d (.int .i64 l.length)),(11,true,.d (.int .i64 pre.length))],[⟨250,v,.vec 19 (out.map bZ)⟩,⟨350,v3,H⟩,⟨400,v4,I⟩]⟩ k)
 |[],pre,out,v,v3,H,v4,I,E,A1,M=>by
  have A4:pre.length=l.length:=by rw[E];simp
  have:=J [(9,true,.d (.list (l.map bZ))),(10,true,.d (.int .i64 l.length)),(11,true,.d (.int .i64 l.length)),(12,true,.d (.bool false))] out v v3 H v4 I;simp[cy]at this⊢;rw[A4,ag];simp[f56,this]
 |x::rest,pre,out,v,v3,H,v4,I,E,A1,M=>by
  have A5:pre.length<l.length:=by rw[E];simp
  have A6:l[pre.length]=x:=by simp[E]
  obtain⟨AC,AD,AE,AG,AH⟩:=M x (by simp);have ih:=λv v3 H v4 I=>Si l U k Q J rest (pre++[x]) (out++[pY x]) v v3 H v4 I (by simp[E]) (by simp[A1]) (λy A8=>M y (by simp[A8]));have A2:=λN V O Z cs A3 a9 A' A0 k Q J v=>Sg (aV x) AG N V O Z cs A3 a9 A' A0 k Q J (aV x) [] [] v rfl rfl AH;have A9:=bu ((pre.length:Int)+1);have AA:out.length<=4611686018427387903:=by omega
  have AB:(out.length+1)*288<=140737488355328:=by omega
  have e:out++cy (x::rest)=out++[pY x]++cy rest:=by simp[cy]
  have AI:bZ (pY x)=.agg [.int .i64 (bM x),.str (eG x),.int .i64 (bO (cC (dJ x))),.int .i64 (il (cC (dJ x))),.str (dI (cC (dJ x))),.str (fQ (cC (dJ x))),.list ((da (cC (dJ x))).map bJ),.int .i64 (jH (cC (dJ x))),.int .i64 (bO (cC (dq x))),.int .i64 (il (cC (dq x))),.str (dI (cC (dq x))),.str (fQ (cC (dq x))),.list ((da (cC (dq x))).map bJ),.int .i64 (jH (cC (dq x))),.list ((cx (bS x)).map bJ),.list ((dn x).map mQ),.list ((dy x).map .str),.list ((gS (aV x)).map dr),.int .i64 (jA x)]:=by
   obtain⟨op,name,to,val,conds,AN,fields,blocks,line⟩:=x;rw[dk];simp[pY,bM,eG,dJ,dq,bS,dn,dy,aV,jA]
  rw[e,ag];have AJ:(bZ (pY x)).size=19:=by rw[dk];simp
  generalize pY x=AK at*;generalize cC (dJ x)=t at*;generalize cC (dq x)=w at*;generalize cx (bS x)=AO at*;simp[f56]at ih A2⊢;simp[aw]at AC AD AE;simp[A5,A6,dk x,aw,AC,AD,AE,ai];refine A2 _ _ _ _ _ ?_ _ _ _ _ (λAF r=>AF=gS (aV x)->Q (out++AK::cy rest) r) (λY AF AP AL=>?_) _ rfl
  .intro v aq;simp
  subst AL;simp[f56,A9,AA,AB,<-AI,AJ,ih]
def GO(l:List Sm)(U:l.length<100000000)(M:∀x∈l,KH x):KG l:=by
 have A2:=λk Q J v v3 H v4 I=>Si l U k Q J l [] [] v v3 H v4 I rfl rfl M;unfold KG;rw[alz (by simp)];simp[f56]at A2⊢;refine A2 _ (λout r=>out=cy l->r=some (.ret (.d (.list ((cy l).map bZ))),[])) (λY out v v3 H v4 I h=>?_) _ _ _ _ _ rfl;subst h;simp
def ame{vs:List Vr}{lp:Bool}{x:Sm}(H:jr x=true)(E:oG x=true)(h:(kr vs lp x).1=0)(D:xw x)(A':∀(lp:Bool) (cs:List Ex),cA (aV x)=true->gU (aV x)=true->(eO vs lp cs (aV x)).1=0->mI (aV x)->∀b∈aV x,KG b):KH x:=by
 have AE:(yI (dJ x)/\yI (dq x))/\(∀c∈bS x,yI c)/\∀b∈aV x,KG b:=by
  have AF:eU (dJ x)=true/\eU (dq x)=true/\eu (bS x)=true/\gU (aV x)=true:=by
   obtain⟨op,name,to,val,conds,A9,fields,blocks,line⟩:=x;simp only[oG,Ds]at E;exact⟨E.1,E.2.1,E.2.2.1,E.2.2.2.2⟩
  have A0:mI (aV x):=by
   obtain⟨op,name,to,val,conds,A9,fields,blocks,line⟩:=x;simp only[xw]at D;exact D.2
  obtain⟨AG,A6,Z,A1⟩:=AF;cases EJ H h with
  |WD I AB A7 ft AH U AI AC=>exact⟨⟨rV _ ft AG AH,rV _ U A6 AI⟩,by simp[bS],by simp[aV]⟩
  |Oo I M AA V J A2 N hh=>
   exact⟨⟨kA I,kA M⟩,EU _ AA Z (λc A8=>(eZ (qQ J hh c A8)).1),A' _ _ N A1 hh A0⟩
  |WE I U A3 J A2 AW N hh=>exact⟨⟨kA I,rV _ U A6 (eZ A3).1⟩,by simp[bS],A' _ _ N A1 hh A0⟩
  |WG D I M AB A7 AX AC AJ AK AL AM AN AO N hh=>
   simp only[bS,eu,Ds]at Z;refine⟨⟨kA I,kA M⟩,?_,A' true [] (by simpa [aV,cA]using N) A1 (by simp[aV,eO,fu,hh]) A0⟩;intro c A8;simp only[bS,aam,aaH,ajl]at A8;rcases A8 with rfl|rfl|rfl
   .exact rV _ AJ Z.1 (eZ AK).1
   .exact rV _ AL Z.2.1 (eZ AM).1
   .exact rV _ AN Z.2.2.1 (eZ AO).1
  |WH I U A3 N hh=>exact⟨⟨kA I,rV _ U A6 (eZ A3).1⟩,by simp[bS],A' true [] (by simpa [aV,cA]using N) A1 (by simp[aV,eO,fu,hh]) A0⟩
  |rep I U A3 N hh=>exact⟨⟨kA I,rV _ U A6 (eZ A3).1⟩,by simp[bS],A' true [] (by simpa [aV,cA]using N) A1 (by simp[aV,eO,fu,hh]) A0⟩
  |ext I M AY=>exact⟨⟨kA I,kA M⟩,by simp[bS],by simp[aV]⟩
  |ret I M=>exact⟨⟨kA I,kA M⟩,by simp[bS],by simp[aV]⟩
  |WI AZ I M AB AC AA AP A_ hh=>exact⟨⟨kA I,kA M⟩,EU _ AA Z (As _ _ [] AP hh),by simp[aV]⟩
 have AD:(bS x).length<100000000/\(aV x).length<100000000:=by
  obtain⟨op,name,to,val,conds,A9,fields,blocks,line⟩:=x;simp only[xw]at D;exact⟨D.1.2.2.1.1,D.1.2.2.2.2.2⟩
 obtain⟨⟨AQ,AR⟩,AS,AT⟩:=AE;refine⟨?_,?_,?_,AD.2,AT⟩
 .exact AQ
 .exact AR
 .exact ZQ _ AD.1 AS
mutual
def aiL{vs:List Vr}:∀(x:Sm)(lp:Bool),jr x=true->oG x=true->(kr vs lp x).1=0->xw x->KH x
 | .mk op name to val conds A9 fields blocks line,lp,H,E,h,D=>ame H E h D (λlp cs V J A2 AU=>GP blocks lp cs V J A2 AU)
def BT{vs:List Vr}:∀(l:List Sm)(lp:Bool),eF l=true->jD l=true->(eK vs lp l).1=0->mJ l->∀x∈l,KH x
 |[],_,_,_,_,_,x,A4=>absurd A4 (aaH)
 |y::r,lp,H,E,h,D,x,A4=>by
  simp only[eF,Ds]at H;simp only[jD,Ds]at E;simp only[eK]at h;simp only[mJ]at D;obtain⟨V,J⟩:=b9.1 h;rcases aam.1 A4 with A5|A4
  .rw[A5];exact aiL y lp H.1 E.1 V D.1
  .exact BT r lp H.2 E.2 J D.2 x A4
def GP{vs:List Vr}:∀(l:List (List Sm))(lp:Bool)(cs:List Ex),cA l=true->gU l=true->(eO vs lp cs l).1=0->mI l->∀b∈l,KG b
 |[],_,_,_,_,_,_,b,O=>absurd O (aaH)
 |y::r,lp,[],H,E,h,D,b,O=>by
  simp only[cA,Ds]at H;simp only[gU,Ds]at E;simp only[eO]at h;simp only[mI]at D;obtain⟨V,J⟩:=b9.1 h;rcases aam.1 O with A5|O
  .rw[A5];exact GO y D.1.1 (BT y lp H.1 E.1 V D.1.2)
  .exact GP r lp [] H.2 E.2 J D.2 b O
 |y::r,lp,c::cs,H,E,h,D,b,O=>by
  simp only[cA,Ds]at H;simp only[gU,Ds]at E;simp only[eO]at h;simp only[mI]at D;obtain⟨V,J⟩:=b9.1 h;obtain⟨J,A2⟩:=b9.1 J;rcases aam.1 O with A5|O
  .rw[A5];exact GO y D.1.1 (BT y lp H.1 E.1 J D.1.2)
  .exact GP r lp cs H.2 E.2 A2 D.2 b O
end
def ads{p:Pg}{lp:Bool}(AV:p.body.length<100000000)(H:eF p.body=true)(E:jD p.body=true)(h:(eK p.vars lp p.body).1=0)(D:mJ p.body):ak ctx 30 [.d (gO p)] []=some (.ret (.d (gO (WA p))),[]):=by
 have A7:=GO p.body AV (BT p.body lp H E h D);unfold KG at A7;rw[alm (by simp)];simp[f30,A7,WA]
structure JY(p:Pg):Prop where
 fit:uT p=true
 lit:jD p.body=true
 PC:(xl p).1=0
 lw:eH (gO p)<10000000
def BU{p:Pg}(h:uT p=true):p.vars.length<=64/\(∀v∈p.vars,cJ v=true)/\eF p.body=true:=by
 simp only[uT,Ds,aaR,aaw]at h;exact h.2
def tQ{p:Pg}(h:(xl p).1=0):(eK p.vars false p.body).1=0:=(b9.1 h).2
def aiM{p:Pg}(h:JY p)(N:aM (cy p.body)<=64):Jf false (ah p.vars (cy p.body) (bH p.vars)).1:=by
 have E:=(WU h.fit h.lit h.PC N).1;intro x H;by_cases I:0<=x.a
 .exact⟨λ_=>I,λ_=>.inl I⟩
 .refine⟨λO=>?_,λU=>?_⟩
  .have:=(E.out x H (.inr O) (by omega)).1;omega
  .rcases (E.out x H (.inl U) (by omega)).2 with e|⟨e,_⟩
   .exact .inr (.inl e)
   .cases e
def ZR{p:Pg}(h:JY p):ak ctx 30 [.d (gO p)] []=some (.ret (.d (gO (WA p))),[]):=by
 obtain⟨V,Z,A4⟩:=GF (p:=p) (by have:=h.lw;simp only[gO]at this;omega);exact ads (lp:=false) V (BU h.fit).2.2 h.lit (tQ h.PC) Z
def Cn:Option (List ax×Int×Int)->D
 |none=>.agg [.list [],.int .i64 0,.int .i64 0]
 |some g=>.agg [.list (g.1.map aZ),.int .i64 g.2.1,.int .i64 g.2.2]
def Lp:Option (List ax×Int×Int)->Int
 |none=>13
 |some _=>0
def PD{p:Pg}(h:JY p):ak ctx 10 [.d (gO p)] []=some (.ret (.bh [.d (Cn (sZ p)),.d (.int .i64 (Lp (sZ p)))]),[]):=by
 obtain⟨f1,f2,f3⟩:=BU h.fit;obtain⟨y,A5,A6⟩:=I8 p h.lw;have J:=s6 false p.body f3 h.lit (tQ h.PC);have A':=ado (p:=p) (by omega) f2 J.1 J.2.2;have A0:=vK p.vars (λv A1=>oI (f2 v A1));have A7:=yA p.vars [] 0 (by omega) (b9.1 h.PC).1;have A8:=nJ (vs:=p.vars) (cy p.body) (bH p.vars);have q1:=y (bH p.vars);have A2:=A' ⟨[],bH p.vars,0,[],[]⟩ (aje _) A0 ⟨by simp,by simp⟩ (by simp) (by simp only[aay];omega) (by simp only;omega) (by simp only[aay];omega);have A9:(0:Nat)+(ah p.vars (cy p.body) (bH p.vars)).1.length=(ah p.vars (cy p.body) (bH p.vars)).1.length:=by omega
 have AA:=tf (-2) (ah p.vars (cy p.body) (bH p.vars)).1 0;have A3:=ZL p (by omega) f2 (ZR h) _ A2 (by simp[Mk.aW];omega) (by simp[Mk.aW];omega) (by
  intro i hi;simp only[Mk.aW,aba,aal,aay,oZ]at hi⊢;obtain⟨j,e,AB⟩:=DZ _ _ _ i hi;exact⟨j,e,by omega⟩)
 rw[A3];simp only[Mk.aW,Mk.cS,Mk.put,aba,aal,aay,oZ,aao,IG,aeF];unfold sZ;simp only
 by_cases M:4096<(ah p.vars (cy p.body) (bH p.vars)).1.length+1\/64<aM (cy p.body)
 .rw[aav M,aav (by omega)];rfl
 .rw[aaf M,aaf (by omega),adq (aiM h (by omega))];rfl
end Go.Am
end
section
namespace Go.Am
open Go
set_option maxRecDepth 100000
set_option maxHeartbeats 8000000
def apL:Nat->Nat
 |99=>177
 |143=>179
 |206=>221
 |217=>222
 |219=>223
 |224=>251
 |225=>250
 |266=>249
 |267=>252
 |314=>274
 |_=>0
def apM:Nat->Nat
 |3=>3
 |4=>4
 |5=>5
 |9=>9
 |46=>302
 |51=>299
 |146=>322
 |_=>0
def apN:Nat->Nat
 |1=>2
 |_=>0
def rho:Go.Shelf.Ren:=⟨apL,apM,apN⟩
def adL:Go.Proofs.Lays.n143 Go.Proofs.Tryz.prog rho where
 mixed:=by kernel_rfl
 f143:=by kernel_rfl
 f217:=by kernel_rfl
 f219:=by kernel_rfl
 f224:=by kernel_rfl
 f225:=by kernel_rfl
 f266:=by kernel_rfl
 f267:=by kernel_rfl
 f314:=by kernel_rfl
 t3:=by kernel_rfl
 a3:=by intro w;kernel_rfl
 z3:=by intro w;kernel_rfl
 v3:=by intro w;kernel_rfl
 t4:=by kernel_rfl
 a4:=by intro w;kernel_rfl
 z4:=by intro w;kernel_rfl
 v4:=by intro w;kernel_rfl
 t5:=by kernel_rfl
 a5:=by intro w;kernel_rfl
 z5:=by intro w;kernel_rfl
 v5:=by intro w;kernel_rfl
 t9:=by kernel_rfl
 a9:=by intro w;kernel_rfl
 z9:=by intro w;kernel_rfl
 v9:=by intro w;kernel_rfl
 t46:=by kernel_rfl
 a46:=by intro w;kernel_rfl
 z46:=by intro w;kernel_rfl
 v46:=by intro w;kernel_rfl
 t51:=by kernel_rfl
 a51:=by intro w;kernel_rfl
 z51:=by intro w;kernel_rfl
 v51:=by intro w;kernel_rfl
 t146:=by kernel_rfl
 a146:=by intro w;kernel_rfl
 z146:=by intro w;kernel_rfl
 v146:=by intro w;kernel_rfl
 g1:=by kernel_rfl
def adM:Go.Proofs.Lays.n217 Go.Proofs.Tryz.prog rho where
 mixed:=by kernel_rfl
 f217:=by kernel_rfl
 f266:=by kernel_rfl
 t3:=by kernel_rfl
 a3:=by intro w;kernel_rfl
 z3:=by intro w;kernel_rfl
 v3:=by intro w;kernel_rfl
 t5:=by kernel_rfl
 a5:=by intro w;kernel_rfl
 z5:=by intro w;kernel_rfl
 v5:=by intro w;kernel_rfl
 t9:=by kernel_rfl
 a9:=by intro w;kernel_rfl
 z9:=by intro w;kernel_rfl
 v9:=by intro w;kernel_rfl
def ajC:Go.Proofs.Lays.n99 Go.Proofs.Tryz.prog rho where
 mixed:=by kernel_rfl
 f99:=by kernel_rfl
 f206:=by kernel_rfl
 t3:=by kernel_rfl
 a3:=by intro w;kernel_rfl
 z3:=by intro w;kernel_rfl
 v3:=by intro w;kernel_rfl
 t4:=by kernel_rfl
 a4:=by intro w;kernel_rfl
 z4:=by intro w;kernel_rfl
 v4:=by intro w;kernel_rfl
 t9:=by kernel_rfl
 a9:=by intro w;kernel_rfl
 z9:=by intro w;kernel_rfl
 v9:=by intro w;kernel_rfl
end Go.Am
end
