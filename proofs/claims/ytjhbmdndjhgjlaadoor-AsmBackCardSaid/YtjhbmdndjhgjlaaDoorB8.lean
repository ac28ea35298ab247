/-
  Texts of one proof, one behind the other.
-/
import Derived.Test.YtjhbmdndjhgjlaaDoorB1
import Derived.Test.YtjhbmdndjhgjlaaDoorB2
import Derived.Test.YtjhbmdndjhgjlaaDoorB3
import Derived.Test.YtjhbmdndjhgjlaaDoorB4
import Derived.Test.YtjhbmdndjhgjlaaDoorB5
import Derived.Test.YtjhbmdndjhgjlaaDoorB6
import Derived.Test.YtjhbmdndjhgjlaaDoorB7
import Derived.Lib.ItoaLen
import Derived.Lib.ParseIntBTie
set_option linter.all false
section
namespace Go.Am
open Go Go.Proofs Go.Proofs.Tryd
variable [Inhabited dI]
set_option maxRecDepth 20000
set_option maxHeartbeats 4000000
def dV{n:Int}(h:bQ n):(Go.Lib.itoa n).length<=21:=Go.Lib.itoa_length_le n h.1 h.2
def pO{n:Int}(h:bQ n):ar ctx 10 [.d (.int .i64 n)] []=some (.ret (.d (.str (sp n))),[]):=by
 have H:=dV h;have D:1+(Go.Lib.itoa n).length<=4611686018427387904:=by omega
 have E:Bj n:=h;rw[Ox (by simp)];simp[f10,D,E,sp]
def eh:List (bd×bd):=[([112,117,115,104],[78]),([108,111,97,100],[65]),([116,114,117,116,104],[65]),([108,111,97,100,120],[65,78,77]),([116,114,117,116,104,120],[65,78,77]),([115,116,111,114,101],[65]),([115,116,111,114,101,120],[65,78,77]),([100,111],[111]),([106,117,109,112],[65]),([110,111,116],[65]),([116,105,99,107],[]),([98,108,111,99,107],[107,65]),([117,112,116,111],[65,66]),([119,105,116,104,105,110],[65,78,77]),([101,110,100],[])]
def BA:ar ctx 23 [] []=some (.ret (.d (.list (eh.map λp=>.agg [.str p.1,.str p.2]))),[]):=gC 50 (by kernel_rfl)
def Jw:ar ctx 24 [] []=some (.ret (.d (.list (ff.map .str))),[]):=gC 100 (by kernel_rfl)
def U1:List (Int×bd):=[(10,[84,79,78]),(11,[84,79,70]),(12,[84,80]),(13,[67,84,85]),(14,[67,84,68]),(15,[82,95,84,82,73,71]),(16,[70,95,84,82,73,71]),(17,[83,82]),(18,[82,83]),(20,[77,67,95,80,111,119,101,114]),(21,[77,67,95,72,111,109,101]),(22,[77,67,95,83,116,111,112]),(23,[77,67,95,72,97,108,116]),(24,[77,67,95,77,111,118,101,65,98,115,111,108,117,116,101]),(25,[77,67,95,77,111,118,101,82,101,108,97,116,105,118,101]),(26,[77,67,95,77,111,118,101,65,100,100,105,116,105,118,101]),(27,[77,67,95,77,111,118,101,86,101,108,111,99,105,116,121]),(28,[77,67,95,71,101,97,114,73,110]),(29,[77,67,95,82,101,115,101,116]),(30,[77,67,95,83,101,116,80,111,115,105,116,105,111,110]),(31,[77,67,95,83,101,116,79,118,101,114,114,105,100,101])]
def P1:List (Int×bd)->Int->bd
 |[],_=>[]
 |(a,t)::r,k=>if a=k then t else P1 r k
def fg(k:Int):bd:=P1 U1 k
def GD{k:Int}(A:k∈dS):ar ctx 25 [.d (.int .i64 k)] []=some (.ret (.d (.str (fg k))),[])/\(fg k).length<=20:=by
 simp only[dS,Xm,Yg,or_false]at A;repeat' (obtain rfl|A:=A)
 all_goals first|(subst A;exact⟨gC 120 (by kernel_rfl),by decide⟩)|exact⟨gC 120 (by kernel_rfl),by decide⟩
def Kg{A6:Int->Nat}{cells last at_:Int}(x:Ins)(h:eL x)(A:cV A6 cells last at_ x=true)(A0:x.op=12->x.b∈dS):
 ar ctx 11 [.d (cU x)] []=some (.ret (.bc [.d (.str (dc fg x)),.d (cU (dZ x))]),[]):=by
 obtain⟨o,a,b,n,m⟩:=x;have D:o=1\/o=2\/o=3\/o=4\/o=5\/o=6\/o=7\/o=9\/o=10\/o=11\/o=13\/o=14\/o=15\/o=8\/o=12:=by
  unfold cV at A;grind
 have E:=pO h.a;have A1:=pO h.b;have A2:=pO h.n;have hm:=pO h.m;have A7:=dV h.a;have A8:=dV h.b;have A9:=dV h.n;have lm:=dV h.m;have H:=BA;simp only at E A1 A2 hm A7 A8 A9 lm A0 A;rw[Oy (by simp)];have w0:=dE 0;have I:=dE 1;have J:=dE 2;have M:=dE 3;have N:=dE 4;have O:=dE 5;have T:=dE 6;have U:=dE 7;have V:=dE 8;have W:=dE 9;have Y:=dE 10;have Z:=dE 11;have q:=dE 12;have y:=dE 13;have A':=dE 14;have q1:∀n:Int,(sp n).length=(Go.Lib.itoa n).length+1:=λn=>rfl;have q2:∀k:Nat,k<=100->k<=4611686018427387904:=λk h=>by omega
 rcases D with rfl|rfl|rfl|rfl|rfl|rfl|rfl|rfl|rfl|rfl|rfl|rfl|rfl|rfl|rfl
 case inr.inr.inr.inr.inr.inr.inr.inr.inr.inr.inr.inr.inr.inl=>
  have AA:(a=0\/a=1)/\6<=b/\b<=21:=by
   simp[cV,vt]at A;by_cases A3:a=0
   .simp[A3]at A⊢;omega
   .by_cases A4:a=1
    .simp[A4]at A⊢;omega
    .simp[A3,A4]at A
  obtain⟨AB,AK,AL⟩:=AA;have AC:=dE (b-6);have D:=Jw;have AD:(b-6).toNat<ff.length:=by simp[ff];omega
  obtain⟨t,A5,AM⟩:∃t,ff[(b-6).toNat]=t/\t.length<=10:=by
   have AE:∀t∈ff,t.length<=10:=by decide
   exact⟨ff[(b-6).toNat],rfl,AE _ (XQ AD)⟩
  have AF:ff[(b-6).toNat]?=some t:=by rw[<-A5];simp
  have AG:b-6<16:=by omega
  have AH:0<=b-6:=by omega
  have AI:ff.length=16:=rfl;rcases AB with rfl|rfl;all_goals
   simp[f11,eA,H,eh,aN,D,A5,AF,AC,AG,AH,AI,fR,w0,I,J,M,N,O,T,U,V,W,Y,Z,q,y,A',dc,dZ]<;>omega
 case inr.inr.inr.inr.inr.inr.inr.inr.inr.inr.inr.inr.inr.inr=>
  obtain⟨AJ,lk⟩:=GD (A0 rfl);simp[f11,eA,H,eh,aN,E,AJ,fR,q1,w0,I,J,M,N,O,T,U,V,W,Y,Z,q,y,A',dc,dZ]<;>omega
 all_goals
  simp[f11,eA,H,eh,aN,E,A1,A2,hm,fR,q1,w0,I,J,M,N,O,T,U,V,W,Y,Z,q,y,A',dc,dZ]<;>omega
def OY:zj Tryd.prog 33=true:=by kernel_rfl
def OZ:liesAt Tryd.prog Tryd.prog.depth 39 (2/Tryd.prog.cellsOf 39) 0 39 1=true:=by kernel_rfl
def U3:tk Tryd.prog 79=.other:=by kernel_rfl
def Ik(n:Nat)(A:List UInt8):ar ctx 21 [.ptr 0 0 0] [.box [.tn 0 0 39,.vec 1 0 0 n],.buf 5 A]=some (.ret (.bc []),[(0,.box [.ptr 0 0 0,.vec 1 0 0 n]),(0,.buf 5 A)]):=by
 rw[Ju (by simp)];simp[f21,OY,OZ,U3,Tryd.underlying79,Tryd.underlying36]
def Il(n:Nat)(A:List UInt8):ar ctx 21 [.ptr 0 0 0] [.box [.ptr 0 0 0,.vec 1 0 0 n],.buf 5 A]=some (.ret (.bc []),[(0,.box [.ptr 0 0 0,.vec 1 0 0 n]),(0,.buf 5 A)]):=by
 rw[Ju (by simp)];simp[f21]
def No(n:Nat)(A s:List UInt8)(D:n=A.length)(I:A.length+s.length<=500000):ar ctx 9 [.ptr 0 0 0,.d (.str s)] [.box [.tn 0 0 39,.vec 1 0 0 n],.buf 5 A]=
 some (.ret (.bc [.d (.int .i64 s.length),.lit .nilIface]),[(0,.box [.ptr 0 0 0,.vec 1 1 0 (n+s.length)]),(1,.buf 5 (A++s))]):=by
 subst D;have h:=Ik A.length A;have H:A.length+s.length<=140737488355328:=by omega
 have E:A.length+s.length<=4611686018427387904:=by omega
 rw[Nf (by simp)];simp[f9,h,H,E]
def Np(n:Nat)(A s:List UInt8)(D:n=A.length)(I:A.length+s.length<=500000):ar ctx 9 [.ptr 0 0 0,.d (.str s)] [.box [.ptr 0 0 0,.vec 1 0 0 n],.buf 5 A]=
 some (.ret (.bc [.d (.int .i64 s.length),.lit .nilIface]),[(0,.box [.ptr 0 0 0,.vec 1 1 0 (n+s.length)]),(1,.buf 5 (A++s))]):=by
 subst D;have h:=Il A.length A;have H:A.length+s.length<=140737488355328:=by omega
 have E:A.length+s.length<=4611686018427387904:=by omega
 rw[Nf (by simp)];simp[f9,h,H,E]
def O0:Tryd.prog.cellsOf 5=1:=by kernel_rfl
def Nq(n:Nat)(A:List UInt8)(D:n=A.length)(J:0<A.length)(I:A.length<=500000):ar ctx 12 [.ptr 0 0 0] [.box [.ptr 0 0 0,.vec 1 0 0 n],.buf 5 A]=
 some (.ret (.d (.str A)),[(0,.box [.ptr 0 0 0,.aA]),(1,.dead)]):=by
 subst D;have E:A.length<=4611686018427387904:=by omega
 rw[Oz (by simp)];simp[f12,eA,J,E,O0]
def Ki{c:Prop}[Decidable c]{a b:bd}(H:a.length<=80)(J:b.length<=80):(if c then a else b).length<=80:=by split<;>assumption
def BC{x:Ins}(h:eL x)(A7:x.op=12->x.b∈dS):(dc fg x).length<=80:=by
 have AN:=dV h.a;have AO:=dV h.b;have A8:=dV h.n;have lm:=dV h.m;have q1:∀n:Int,(sp n).length=(Go.Lib.itoa n).length+1:=λn=>rfl;have A9:∀i,(ff.getD i []).length<=10:=λi=>by
  rw[YD];cases h:ff[i]? with
  |none=>simp
  |some t=>exact (show ∀t∈ff,t.length<=10 by decide) t (Xk h)
 have AP:=A9 (x.b-6).toNat;have N:x.op=12->(fg x.b).length<=20:=λh=>(GD (A7 h)).2;unfold dc;by_cases H:x.op=12
 .have:=N H;simp[H,q1];omega
 .simp only[H,X3];have AQ:((if x.a=1 then [100,111,116]else [100,111]):bd).length<=3:=by split<;>decide
  repeat' (refine Ki ?_ ?_)
  all_goals (try simp only[Xx,Yk,Yr,q1])<;>omega
def xd(ci:List Ins)(A D:Int)(A0:ci.length<=5000)(Z:∀x∈ci,ar ctx 11 [.d (cU x)] []=some (.ret (.bc [.d (.str (dc fg x)),.d (cU (dZ x))]),[])/\(dc fg x).length<=80)(k:Kt)(R:Option bd->dR)
 (H:∀m,k .ret ⟨42,cB,[(2,true,.d (.str [])),(3,true,.d (.int .i64 1))],m⟩=R none)
 (J:∀u E v1 I v2 c2,0<E.length->E.length<=500000->k (.exit 0) ⟨42,cB,[(4,true,.ptr 300 1 0),(23,true,.d (.list (ci.map cU))),(24,true,.d (.int .i64 ci.length)),(25,true,.d (.int .i64 ci.length)),(26,true,.d (.bool false))],[⟨150,1,.box [.d (.list (ci.map cU)),.d (.int .i64 A),.d (.int .i64 D)]⟩,⟨300,1,.box [.ptr 300 1 0,.vec 310 u 0 E.length]⟩,⟨310,u,.buf 5 E⟩,⟨400,v1,I⟩,⟨500,v2,c2⟩]⟩=R (some E)):
 ∀(rest pre:List Ins),ci=pre++rest->∀u E v1 I v2 c2,0<E.length->E.length<=100+81*pre.length->
 bn ctx 5 (.loop (Code.at (codeOf f5) [1,1,1,1,0,1,0,0])) ⟨42,cB,[(4,true,.ptr 300 1 0),(23,true,.d (.list (ci.map cU))),(24,true,.d (.int .i64 ci.length)),(25,true,.d (.int .i64 pre.length))],[⟨150,1,.box [.d (.list (ci.map cU)),.d (.int .i64 A),.d (.int .i64 D)]⟩,⟨300,1,.box [.ptr 300 1 0,.vec 310 u 0 E.length]⟩,⟨310,u,.buf 5 E⟩,⟨400,v1,I⟩,⟨500,v2,c2⟩]⟩ k=R ((eg fg rest).map (E++·))
 |[],pre,O,u,E,v1,I,v2,c2,T,V=>by
  have AA:pre.length=ci.length:=by rw[O];simp
  rw[AA,aN];have J:=J u E v1 I v2 c2 T (by omega);simp[f5,eg,J]
 |x::rest,pre,O,u,E,v1,I,v2,c2,T,V=>by
  have AB:pre.length<ci.length:=by rw[O];simp
  have M:ci[pre.length]=x:=by simp[O]
  obtain⟨A1,AR⟩:=Z x (by rw[O];simp);have ih:=xd ci A D A0 Z k R H J rest (pre++[x]) (by simp[O]);have AC:=dE ((pre.length:Int)+1);have hw:=Np E.length E (dc fg x++[10]) rfl (by simp;omega);have AD:(dc fg x).length+1<=4611686018427387904:=by omega
  rw[aN];have A2:(dZ x).op=x.op:=by unfold dZ;grind
  have ih:=λI c2=>ih (u+1) (E++(dc fg x++[10])) (v1+1) I (v2+1) c2 (by simp;omega) (by simp;omega);have AE:eg fg (x::rest)=if (dZ x).a=x.a/\(dZ x).b=x.b/\(dZ x).n=x.n/\(dZ x).m=x.m then (eg fg rest).map λt=>dc fg x++(10::t)else none:=by simp[eg,lF]
  rw[AE];obtain⟨o,a,b,n,m⟩:=x;generalize dc fg ⟨o,a,b,n,m⟩=A8 at*;generalize dZ ⟨o,a,b,n,m⟩=y at*;obtain⟨AS,AF,AG,AH,m'⟩:=y;simp only at A2;subst A2;simp[f5,AB,M]at ih⊢;simp at A1 hw;simp[A1,AD,hw,AC,ih,H];by_cases A3:AF=a/\AG=b/\AH=n/\m'=m
  .obtain⟨rfl,rfl,rfl,rfl⟩:=A3;simp[Function.comp_def]
  .rw[Xq A3,Xz (by grind)];rfl
def gD(ci:List Ins)(A D:Int):Option bd:=
 if fx ew ci A D=true then (eg fg ci).map λt=>[99,101,108,108,115]++(sp A++(sp D++(10::t)))else none
def tj:Option bd->AV
 |some t=>.bc [.d (.str t),.d (.int .i64 0)]
 |none=>.bc [.d (.str []),.d (.int .i64 1)]
def oK{cells last at_:Int}{x:Ins}(W:cV ew cells last at_ x=true)(h:x.op=12):x.b∈dS:=by
 apply Classical.byContradiction;intro AI;have:=qR AI;simp[cV,h,ew,this]at W
def vp{ci:List Ins}{A D:Int}(h:fx ew ci A D=true):∀x∈ci,∃at_:Int,cV ew D ((ci.length:Int)-1) at_ x=true:=by
 intro x M;obtain⟨i,hi⟩:=YN M;simp only[fx,iJ,Xl]at h;exact⟨_,rL h.1.1.2 i x hi⟩
def xW(ci:List Ins)(A D:Int)(A0:ci.length<=5000)(A4:∀x∈ci,eL x)(A5:bQ A)(A6:bQ D):ar ctx 5 [.d (kF ci A D)] []=some (.ret (tj (gD ci A D)),[]):=by
 have N:=mw ew xU ci A D (by omega);rw[Q8 (by simp)];by_cases A':fx ew ci A D=true
 .have Z:∀x∈ci,ar ctx 11 [.d (cU x)] []=some (.ret (.bc [.d (.str (dc fg x)),.d (cU (dZ x))]),[])/\(dc fg x).length<=80:=λx M=>by
   obtain⟨a,W⟩:=vp A' x M;exact⟨Kg x (A4 x M) W (oK W),BC (A4 x M) (oK W)⟩
  have AJ:=λk R H J=>xd ci A D A0 Z k R H J ci [] rfl;have AK:=pO A5;have AL:=pO A6;have AT:=dV A5;have AU:=dV A6;have q1:∀n:Int,(sp n).length=(Go.Lib.itoa n).length+1:=λn=>rfl;obtain⟨U,Y⟩:∃U,U=[99,101,108,108,115]++(sp A++(sp D++[10])):=⟨_,rfl⟩;have hw:=No 0 [] U rfl (by rw[Y];simp[q1];omega);have e:gD ci A D=(eg fg ci).map (U++·):=by simp[gD,A',Y]
  have V:U.length<=100:=by rw[Y];simp[q1];omega
  have T:0<U.length:=by rw[Y];simp
  rw[e];have I:5+(sp A).length<=4611686018427387904:=by rw[q1];omega
  have c2:(sp A).length+1+1+1+1+1+(sp D).length<=4611686018427387904:=by rw[q1,q1];omega
  have c3:(sp A).length+(sp D).length<=4611686018427387898:=by rw[q1,q1];omega
  subst Y;simp at N hw;have q:=λk H J u=>AJ k (λo=>some (.ret (tj o),[])) H J u _ 0 .dead 0 .dead T V;simp[f5,eA,N,A',AK,AL,hw,I,c2,c3]at q⊢;rw[q]
  .intro m;simp[tj]
  .intro u E v1 I v2 c2 T V;have AM:=Nq E.length E rfl (by simpa using T) V;simp[AM,tj]
 .simp at N;simp[f5,eA,N,A',gD,tj]
def yU:List Ins:=[⟨11,0,0,0,0⟩,⟨1,0,0, -5,0⟩,⟨6,0,0,0,0⟩,⟨15,0,0,0,0⟩]
def Io:ar ctx 6 [.d (.str [99,101,108,108,115,32,49,32,49,10,116,105,99,107,10,101,110,100])] []=some (.ret (.bc [.d (.agg [.list [cU ⟨11,0,0,0,0⟩,cU ⟨15,0,0,0,0⟩],.int .i64 1,.int .i64 1]),.d (.int .i64 0),.d (.int .i64 0)]),[]):=gC 200 (by kernel_rfl)
def U5:Go.Lib.itoa 0=[48]:=by unfold Go.Lib.itoa;rw[Xq (by decide),Go.Lib.decDigits,dif_pos (by decide)];rfl
def U6:Go.Lib.itoa 1=[49]:=by unfold Go.Lib.itoa;rw[Xq (by decide),Go.Lib.decDigits,dif_pos (by decide)];rfl
def U7:Go.Lib.itoa (-5)=[45,53]:=by unfold Go.Lib.itoa;rw[Xz (by decide),Go.Lib.decDigits,dif_pos (by decide)];rfl
def Kj:gD yU 1 1=some [99,101,108,108,115,32,49,32,49,10,116,105,99,107,10,112,117,115,104,32,45,53,10,115,116,111,114,101,32,48,10,101,110,100,10]:=by
 have h:fx ew yU 1 1=true:=by
  have a:=mw ew xU yU 1 1 (by decide);have b:ar ctx 8 [.d (kF yU 1 1)] []=some (.ret (.d (.bool true)),[]):=gC 100 (by kernel_rfl);rw[a]at b;simpa using b
 unfold gD;rw[Xz h];simp[yU,eg,lF,dZ,dc,sp,U5,U6,U7]
def GL:ar ctx 4 [] []=some (.ret (.d (.bool true)),[]):=by
 have A:=xW yU 1 1 (by decide) (λx D=>by
  simp only[yU,Xm,Yg,or_false]at D;rcases D with rfl|rfl|rfl|rfl<;>exact⟨by unfold bQ;simp,by unfold bQ;simp,by unfold bQ;simp,by unfold bQ;simp⟩) (by unfold bQ;simp) (by unfold bQ;simp)
 rw[Kj]at A;have E:=Io;rw[Q7 (by simp)];simp[yU,tj]at A E;simp[f4,A,E];rfl
def oL(s:bd):Option Int:=match Go.Lib.parseIntB 64 s with
 | .ok n=>if Go.Lib.itoa n=s then some n else none
 |_=>none
def ei(s:bd):Option Int:=(oL s).bind λn=>if 0<=n/\n<=65535 then some n else none
def mH:Option Int->AV
 |some n=>.bc [.d (.int .i64 n),.d (.bool true)]
 |none=>.bc [.d (.int .i64 0),.d (.bool false)]
def JA{s:bd}{n:Int}(h:Go.Lib.parseIntB 64 s=.ok n):bQ n:=by
 have:=Go.Lib.parseIntB_bounds h;unfold bQ;simp at this;omega
def BD(s:bd)(E:s.length<=300000):ar ctx 40 [.d (.str s)] []=some (.ret (mH (oL s)),[]):=by
 have H:s.length<=281474976710656:=by omega
 rw[OM (by simp)];unfold oL;have I:=λn=>JA (s:=s) (n:=n);generalize J:Go.Lib.parseIntB 64 s=q at I;rcases q with n|_|_
 .have A:Bj n:=I n rfl;by_cases he:Go.Lib.itoa n=s<;>simp[f40,H,Jn,J,A,he,mH]
 all_goals simp[f40,H,Jn,J,mH]
def xX(s:bd)(E:s.length<=300000):ar ctx 27 [.d (.str s)] []=some (.ret (mH (ei s)),[]):=by
 have h:=BD s E;rw[OF (by simp)];unfold ei;cases M:oL s with
 |none=>
  rw[M]at h;simp[mH]at h;simp[f27,h,mH]
 |some n=>
  rw[M]at h;simp[mH]at h;by_cases D:n<0
  .have e:¬(0<=n/\n<=65535):=by omega
   simp[f27,h,D,e,mH]
  .by_cases A:65535<n
   .have e:¬(0<=n/\n<=65535):=by omega
    simp[f27,h,D,A,e,mH]
   .have e:0<=n/\n<=65535:=by omega
    have w:=dE n;simp[f27,h,D,A,e,w,mH]
def gU(w:bd):List bd->Nat->Int
 |[],_=> -1
 |x::r,i=>if w=x then i else gU w r (i+1)
def xe(w:bd)(l:List bd)(A:l.length<=1000)(k:Kt)(R:Int->dR)
 (I:∀X,k (.exit 0) ⟨19,cB,X,[]⟩=R (-1)) (J:∀n,k .ret ⟨19,cB,[(4,true,.d (.int .i64 n))],[]⟩=R n):∀(rest pre:List bd),l=pre++rest->
 bn ctx 41 (.loop (Code.at (codeOf f41) [1,0,1,0,0])) ⟨19,cB,[(0,true,.d (.list (l.map D.str))),(1,true,.d (.str w)),(7,true,.d (.int .i64 l.length)),(8,true,.d (.int .i64 pre.length))],[]⟩ k=R (gU w rest pre.length)
 |[],pre,E=>by
  have A':pre.length=l.length:=by rw[E];simp
  rw[A',aN];simp[f41,gU,I]
 |x::rest,pre,E=>by
  have U:pre.length<l.length:=by rw[E];simp
  have V:l[pre.length]=x:=by simp[E]
  have ih:=xe w l A k R I J rest (pre++[x]) (by simp[E]);have H:=dE ((pre.length:Int)+1);rw[aN];simp[f41]at ih⊢;by_cases he:w=x
  .simp[U,V,he,gU,J]
  .simp[U,V,he,gU,H,ih]
def Kl(w:bd)(l:List bd)(A:l.length<=1000):ar ctx 41 [.d (.list (l.map D.str)),.d (.str w)] []=some (.ret (.d (.int .i64 (gU w l 0))),[]):=by
 have h:=λk R I J=>xe w l A k R I J l [] rfl;rw[ON (by simp)];simp[f41]at h⊢;rw[h _ (λn=>some (.ret (.d (.int .i64 n)),[]))]
 .intro X;simp
 .intro n;simp
def fu(x:Ins):List AV:=[.d (.int .i64 x.op),.d (.int .i64 x.a),.d (.int .i64 x.b),.d (.int .i64 x.n),.d (.int .i64 x.m)]
def pE(o:Option Int):Int:=if o.isSome=true then 0 else 5
def cA(x:Ins)(c:Int)(w:bd):Ins×Int:=
 if c=65 then ({x with a:=(ei w).getD 0},pE (ei w))
 else if c=66 then ({x with b:=(ei w).getD 0},pE (ei w))
 else if c=78 then ({x with n:=(oL w).getD 0},pE (oL w))
 else if c=77 then ({x with m:=(oL w).getD 0},pE (oL w))
 else if c=111 then if gU w ff 0<0 then (x,9)else ({x with b:=6+gU w ff 0},0)
 else if c=107 then ({x with b:=mS w},if mS w=0 then 9 else 0)
 else (x,0)
def xY(w:bd):∀(l:List bd)(i:Nat),gU w l i<i+l.length
 |[],i=>by simp[gU];omega
 |x::r,i=>by
  unfold gU;split
  .simp;omega
  .have:=xY w r (i+1);simp;omega
def Ns(x:Ins)(c:Int)(w:bd)(A:w.length<=300000):ar ctx 28 [.ptr 0 0 0,.d (.int .i32 c),.d (.str w)] [.box (fu x)]=some (.ret (.d (.int .i64 (cA x c w).2)),[(0,.box (fu (cA x c w).1))]):=by
 have M:=xX w A;have N:=BD w A;have hi:=Kl w ff (by decide);have W:=Jw;have Y:=Ey w;have hle:=xY w ff 0;have A0:ff.length=16:=rfl;have H:¬gU w ff 0<0->IntKind.i64.wrap (6+gU w ff 0)=6+gU w ff 0:=λh=>dE _ (by unfold bQ;omega);rw[OG (by simp)];unfold cA;generalize ei w=p at*;generalize oL w=q at*;generalize gU w ff 0=j at*;generalize mS w=g at*;generalize ff=L at*;by_cases Z:c=65
 .cases p<;>simp[mH]at M<;>simp[f28,Z,M,fu,pE]
 by_cases c2:c=66
 .cases p<;>simp[mH]at M<;>simp[f28,c2,M,fu,pE]
 by_cases c3:c=78
 .cases q<;>simp[mH]at N<;>simp[f28,c3,N,fu,pE]
 by_cases c4:c=77
 .cases q<;>simp[mH]at N<;>simp[f28,c4,N,fu,pE]
 by_cases c5:c=111
 .by_cases O:j<0
  .simp[f28,c5,W,hi,O,fu]
  .have H:=H O;simp[f28,c5,W,hi,O,H,fu]
 by_cases T:c=107
 .by_cases y:g=0
  .simp[f28,T,Y,y,fu]
  .simp[f28,T,Y,y,fu]
 .simp[f28,Z,c2,c3,c4,c5,T,fu]
def jB(w:bd):List (bd×bd)->Nat->Int->Int
 |[],_,J=>J
 |p::r,i,J=>jB w r (i+1) (if p.1=w then (i:Int)else J)
def q8(p:bd×bd):D:=.agg [.str p.1,.str p.2]
def yV(ws:List bd)(w:bd)(l:List (bd×bd))(H:l.length<=1000)(m:Mem)(k:Kt)(R:Int->dR)
 (A:∀n, -1<=n->n<(l.length:Int)->k (.exit 0) ⟨73,cB,[(0,true,.d (.list (ws.map D.str))),(2,true,.ptr 200 1 0),(4,true,.d (.str w)),(5,true,.ptr 350 1 0),(6,true,.d (.list (l.map q8))),(7,true,.d (.int .i64 n)),(20,true,.d (.int .i64 l.length)),(21,true,.d (.int .i64 l.length)),(22,true,.d (.bool false))],m⟩=R n):∀(rest pre:List (bd×bd)),l=pre++rest->∀n:Int, -1<=n->n<(l.length:Int)->
 bn ctx 17 (.loop (Code.at (codeOf f17) [1,1,1,1,1,1,0,1,0,0])) ⟨73,cB,[(0,true,.d (.list (ws.map D.str))),(2,true,.ptr 200 1 0),(4,true,.d (.str w)),(5,true,.ptr 350 1 0),(6,true,.d (.list (l.map q8))),(7,true,.d (.int .i64 n)),(20,true,.d (.int .i64 l.length)),(21,true,.d (.int .i64 pre.length))],m⟩ k=R (jB w rest pre.length n)
 |[],pre,E,n,A3,A4=>by
  have A:=A n A3 A4;have A5:pre.length=l.length:=by rw[E];simp
  rw[A5,aN];simp[f17,jB,A]
 |x::rest,pre,E,n,A3,A4=>by
  have U:pre.length<l.length:=by rw[E];simp
  have AC:l[pre.length]=x:=by simp[E]
  have ih:=λn=>yV ws w l H m k R A rest (pre++[x]) (by simp[E]) n;have AD:=ih pre.length (by omega) (by omega);have AE:=ih n A3 A4;clear ih;have V:=dE ((pre.length:Int)+1);rw[aN];simp[f17]at AD AE⊢;by_cases he:x.1=w
  .simp[U,AC,he,q8,jB,V,AD]
  .simp[U,AC,he,q8,jB,V,AE]
def cn(x:Ins):List UInt8->List bd->Ins×Int
 |[],_=>(x,0)
 |c::r,w::ws=>if (cA x c.toNat w).2=0 then cn (cA x c.toNat w).1 r ws else cA x c.toNat w
 |_::_,[]=>(x,5)
def zI:Ins:=⟨0,0,0,0,0⟩
def xf(ws:List bd)(hw:∀w∈ws,w.length<=300000)(AF:ws.length<=300000)(s:List UInt8)(A1:∀c∈s,c.toNat<128)(H:ws.length=s.length+1)(k:Kt)(R:Ins×Int->dR)
 (A:∀x,k (.exit 2) ⟨73,cB,[(0,true,.d (.list (ws.map D.str))),(2,true,.ptr 200 1 0),(5,true,.ptr 350 1 0),(56,true,.ptr 2900 1 0),(57,true,.bc [.d (.bool false)]),(58,true,.d (.bool false))],[⟨200,1,.box (fu zI)⟩,⟨350,1,.box (fu x)⟩,⟨2900,1,.ej s s.length⟩]⟩=R (x,0))
 (I:∀x e p,e≠0->k .ret ⟨73,cB,[(2,true,.ptr 200 1 0),(3,true,.d (.int .i64 e))],[⟨200,1,.box (fu zI)⟩,⟨350,1,.box (fu x)⟩,⟨2900,1,.ej s p⟩]⟩=R (x,e)):
 ∀(rest pre:List UInt8),s=pre++rest->∀(x:Ins)(X:Env),(X=[]\/X=[(11,true,.d (.int .i64 0)),(69,true,.d (.bool false))])->
 bn ctx 17 (.loop (Code.at (codeOf f17) [1,1,1,1,1,1,1,1,1,0,1,0,0])) ⟨73,cB,[(0,true,.d (.list (ws.map D.str))),(2,true,.ptr 200 1 0),(5,true,.ptr 350 1 0)]++(match X with|[]=>[(56,true,.ptr 2900 1 0)]|_=>[(11,true,.d (.int .i64 0)),(56,true,.ptr 2900 1 0),(69,true,.d (.bool false))]),[⟨200,1,.box (fu zI)⟩,⟨350,1,.box (fu x)⟩,⟨2900,1,.ej s pre.length⟩]⟩ k=R (cn x rest (ws.drop (1+pre.length)))
 |[],pre,E,x,X,A6=>by
  have A5:pre.length=s.length:=by rw[E];simp
  have A:=A x;simp only[fu,zI]at A;rw[A5];rcases A6 with rfl|rfl;all_goals
   rw[aN];simp[f17,cn,fu,zI,A]
 |c::rest,pre,E,x,X,A6=>by
  have U:pre.length<s.length:=by rw[E];simp
  have AG:fR s pre.length=c:=by simp[fR,E]
  have AH:c.toNat<128:=A1 c (by rw[E];simp);have W:1+pre.length<ws.length:=by omega
  obtain⟨w,Y⟩:∃w,ws[1+pre.length]=w:=⟨_,rfl⟩;have AO:ws.drop (1+pre.length)=w::ws.drop (1+(pre.length+1)):=by rw[List.drop_eq_getElem_cons W,Y];rfl
  have M:=Ns x c.toNat w (hw w (by rw[<-Y];exact XQ W));have ih:=xf ws hw AF s A1 H k R A I rest (pre++[c]) (by simp[E]) (cA x c.toNat w).1 [(11,true,.d (.int .i64 0)),(69,true,.d (.bool false))] (.inr rfl);have V:=dE (1+(pre.length:Int));have tn:(1+(pre.length:Int)).toNat=1+pre.length:=by omega
  have AI:0<=1+(pre.length:Int):=by omega
  have AJ:ws[1+pre.length]?=some w:=by rw[<-Y];simp[W]
  rw[AO,cn];generalize cA x c.toNat w=y at*;obtain⟨y,e⟩:=y;have I:=I y e (pre.length+1);simp only[fu,zI]at I M ih⊢;rcases A6 with rfl|rfl;all_goals
   rw[aN];simp[f17]at ih⊢;by_cases he:e=0
   .simp[he]at M;simp[U,AG,AH,W,Y,AJ,tn,AI,V,M,he,ih]
   .simp[he]at I;simp[U,AG,AH,W,Y,AJ,tn,AI,V,M,he,I]
def dK(ws:List bd):Ins×Int:=
 let w:=ws.headD []
 let at_:=jB (if w=[100,111,116]then [100,111]else w) eh 0 (-1)
 if at_<0\/ws.length≠(eh.getD at_.toNat ([],[])).2.length+1 then (zI,5)
 else cn ⟨1+at_,if w=[100,111,116]then 1 else 0,0,0,0⟩ (eh.getD at_.toNat ([],[])).2 (ws.drop 1)
def jb(p:Ins×Int):AV:=.bc [.d (cU (if p.2=0 then p.1 else zI)),.d (.int .i64 p.2)]
def BE(w:bd):∀(l:List (bd×bd))(i:Nat)(J:Int),J<i->jB w l i J<i+l.length
 |[],i,J,h=>by simp[jB];exact h
 |p::r,i,J,h=>by
  have:=BE w r (i+1) (if p.1=w then (i:Int)else J) (by split<;>omega);unfold jB;simp;omega
def O1(w0:bd)(r:List bd)(hw:∀w∈w0::r,w.length<=300000)(AF:r.length<=270000):ar ctx 17 [.d (.list ((w0::r).map D.str))] []=some (.ret (jb (dK (w0::r))),[]):=by
 have AK:ar ctx 23 [] []=some (.ret (.d (.list (eh.map q8))),[]):=BA;have AL:eh.length=15:=rfl;have AM:∀p∈eh,(∀c∈p.2,c.toNat<128)/\p.2.length<=3:=by decide
 have A2:=λw m k R A=>yV (w0::r) w eh (by decide) m k R A eh [] rfl (-1) (by omega) (by omega);have M:=λs A1 H k R A I x=>xf (w0::r) hw (by simp;omega) s A1 H k R A I s [] rfl x [] (.inl rfl);have main:∀(a:Int)(n:Int)(T:List (bd×bd))(_: -1<=n)(_:n<T.length)(_:T.length=15)(_:∀p∈T,(∀c∈p.2,c.toNat<128)/\p.2.length<=3),¬n<0->∃p,T[n.toNat]?=some p/\(∀c∈p.2,c.toNat<128)/\p.2.length<=3:=λa n T A I AR AP AS=>by
  have AN:n.toNat<T.length:=by omega
  exact⟨T[n.toNat],by simp[AN],AP _ (XQ AN)⟩
 rw[OB (by simp)];unfold dK;generalize eh=T at*;simp[f17]at A2 M⊢;by_cases E:w0=[100,111,116]
 .simp[E,AK];simp[E]at A2 M;rw[A2 [100,111] _ _ (λj=>some (.ret (jb (if j<0\/¬r.length=(T[j.toNat]?.getD ([],[])).2.length then (zI,5)else cn ⟨1+j,1,0,0,0⟩ (T[j.toNat]?.getD ([],[])).2 r)),[]))];intro j A7 A8;by_cases N:j<0
  .simp[N,jb,zI]
  .obtain⟨p,O,A9,AQ⟩:=main 1 j T A7 A8 AL AM N;have Z:∀h:j.toNat<T.length,T[j.toNat]=p:=λh=>by rw[XM h]at O;exact Yi O
   have A':0<=j:=by omega
   have A0:j.toNat<T.length:=by omega
   have AA:=dE (1+j);have wr:=dE (r.length:Int);have wp:=dE (p.2.length:Int);by_cases H:r.length=p.2.length
   .simp[N,O,Z,H,A',A0,AA,wp,q8];have q:=λk A I=>M p.2 A9 H k (λq=>some (.ret (jb q),[])) A I ⟨1+j,1,0,0,0⟩;simp[fu,zI]at q;rw[q]
    .intro x;simp[zI,jb]
    .intro x e p he;simp[zI,jb,he]
   .have AB:¬(r.length:Int)=p.2.length:=by omega
    simp[N,O,Z,H,AB,jb,A',A0,wr,q8,zI]
 .simp[E,AK];rw[A2 w0 _ _ (λj=>some (.ret (jb (if j<0\/¬r.length=(T[j.toNat]?.getD ([],[])).2.length then (zI,5)else cn ⟨1+j,0,0,0,0⟩ (T[j.toNat]?.getD ([],[])).2 r)),[]))];intro j A7 A8;by_cases N:j<0
  .simp[N,jb,zI]
  .obtain⟨p,O,A9,AQ⟩:=main 1 j T A7 A8 AL AM N;have Z:∀h:j.toNat<T.length,T[j.toNat]=p:=λh=>by rw[XM h]at O;exact Yi O
   have A':0<=j:=by omega
   have A0:j.toNat<T.length:=by omega
   have AA:=dE (1+j);have wr:=dE (r.length:Int);have wp:=dE (p.2.length:Int);by_cases H:r.length=p.2.length
   .simp[N,O,Z,H,A',A0,AA,wp,q8];have q:=λk A I=>M p.2 A9 H k (λq=>some (.ret (jb q),[])) A I ⟨1+j,0,0,0,0⟩;simp[fu,zI]at q;rw[q]
    .intro x;simp[zI,jb]
    .intro x e p he;simp[zI,jb,he]
   .have AB:¬(r.length:Int)=p.2.length:=by omega
    simp[N,O,Z,H,AB,jb,A',A0,wr,q8,zI]
def tp:∀(s cur:List UInt8),(∀w∈cv s cur,w≠[]/\w.length<=s.length+cur.length)/\(cv s cur).length<=s.length+1
 |[],cur=>by
  unfold cv;split
  .simp
  .rename_i h;simp[h]
 |x::s,cur=>by
  obtain⟨J,a2⟩:=tp s [];obtain⟨b1,b2⟩:=tp s (cur++[x]);unfold cv;split
  .split
   .refine⟨λw hw=>?_,by simp;omega⟩;obtain⟨A,E⟩:=J w hw;exact⟨A,by simp at E⊢;try omega⟩
   .rename_i h;refine⟨λw hw=>?_,by simp;omega⟩;rcases Xm.1 hw with rfl|hw
    .exact⟨h,by simp⟩
    .obtain⟨A,E⟩:=J w hw;exact⟨A,by simp at E⊢;try omega⟩
  .refine⟨λw hw=>?_,by simp;omega⟩;obtain⟨A,E⟩:=b1 w hw;exact⟨A,by simp at E⊢;try omega⟩
def O2(s:List UInt8)(H:s.length<=4294967296):ar ctx 14 [.d (.str s),.fn 15 []] []=some (.ret (.d (.list ((gK s).map D.str))),[]):=by
 have:=Gv ⟨s.toArray⟩;simp only at this;rw[cM];simp only[fa,CJ,H,and_self,Yh];rw[<-this,List.map_map];rfl
def Iq(s:List UInt8)(H:s.length<4294967281):ar ctx 13 [.d (.str s),.d (.str [10])] []=some (.ret (.d (.list ((iG 10 s).map D.str))),[]):=by
 rw[GA];simp[fa,iT,pN,toDs,H,H9]
def xZ(c:UInt8):∀s cur:List UInt8,(iF c s cur).length<=s.length+1
 |[],cur=>by simp[iF]
 |x::s,cur=>by
  unfold iF;split
  .have:=xZ c s [];simp;omega
  .have:=xZ c s (cur++[x]);simp;omega
structure Pr where
 ins:List Ins
 v:Int
 c:Int
def zP:Pr:=⟨[],0,0⟩
def cQ:List bd->Nat->Bool->Pr->Pr×Int×Int
 |[],_,b,p=>if b=false then (zP,5,0)else if fx ew p.ins p.v p.c=true then (p,0,0)else (zP,1,0)
 |s::r,i,b,p=>
  match gK s with
  |[]=>cQ r (i+1) b p
  |w::ws=>
   if w.headD 0=35 then cQ r (i+1) b p
   else if decide (w=[99,101,108,108,115])=b then (zP,5,i+1)
   else if b=false then
    match ws with
    |[x,y]=>if (ei x).isSome=true/\(ei y).isSome=true then cQ r (i+1) true ⟨p.ins,(ei x).getD 0,(ei y).getD 0⟩else (zP,5,i+1)
    |_=>(zP,5,i+1)
   else if (dK (w::ws)).2≠0 then (zP,(dK (w::ws)).2,i+1)
   else if p.ins.length=4096 then (zP,13,i+1)
   else cQ r (i+1) true ⟨p.ins++[(dK (w::ws)).1],p.v,p.c⟩
def jo(t:bd):Pr×Int×Int:=if 262144<t.length then (zP,13,0)else cQ (iG 10 t) 0 false zP
def Km(ws:List bd)(hw:∀w∈ws,w.length<=300000)(I:ws.length<=300000)(n:Nat)(v c:Int)(rows:List D):ar ctx 16 [.ptr 0 0 0,.d (.list (ws.map D.str))] [.box [.vec 1 0 0 n,.d (.int .i64 v),.d (.int .i64 c)],.vec 5 rows]=
 match ws with
 |[_,x,y]=>some (.ret (.d (.bool ((ei x).isSome&&(ei y).isSome))),[(0,.box [.vec 1 0 0 n,.d (.int .i64 ((ei x).getD 0)),.d (.int .i64 ((ei y).getD 0))]),(0,.vec 5 rows)])
 |_=>some (.ret (.d (.bool false)),[(0,.box [.vec 1 0 0 n,.d (.int .i64 v),.d (.int .i64 c)]),(0,.vec 5 rows)]):=by
 rw[OA (by simp)];match ws,hw,I with
 |[w,x,y],hw,_=>
  have A:=xX x (hw x (by simp));have E:=xX y (hw y (by simp));cases M:ei x<;>cases N:ei y<;>simp[M,mH]at A<;>simp[N,mH]at E<;>simp[f16,A,E,M,N]
 |[],_,_=>simp[f16]
 |[w],_,_=>simp[f16]
 |[w,x],_,_=>simp[f16]
 |w::x::y::z::r,_,I=>
  have O:¬(r.length:Int)+1+1+1+1=3:=by omega
  simp at I;have T:=dE ((r.length:Int)+1+1+1+1);simp[f16,O,T]
def pM(u w:Nat)(z:ay)(p:Pr):Mem:=[⟨200,1,.box [.lit (.slice none 0 0),.d (.int .i64 0),.d (.int .i64 0)]⟩,⟨350,1,.box [.vec 351 u 0 p.ins.length,.d (.int .i64 p.v),.d (.int .i64 p.c)]⟩,⟨351,u,.vec 5 (p.ins.map cU)⟩,⟨600,w,z⟩]
def xh(l:List bd)(A6:l.length<=300000)(A4:∀s∈l,s.length<=262144)(k:Kt)(R:Pr×Int×Int->dR)
 (Z:∀u w z b (p:Pr),p.ins.length<=4096->k (.exit 0) ⟨88,cB,[(2,true,.ptr 200 1 0),(5,true,.ptr 350 1 0),(6,true,.d (.bool b)),(17,true,.d (.list (l.map D.str))),(18,true,.d (.int .i64 l.length)),(19,true,.d (.int .i64 l.length)),(20,true,.d (.bool false))],pM u w z p⟩=R (cQ [] 0 b p))
 (A:∀u w z p e j,e≠0->k .ret ⟨88,cB,[(2,true,.ptr 200 1 0),(3,true,.d (.int .i64 e)),(4,true,.d (.int .i64 j))],pM u w z p⟩=R (zP,e,j)):
 ∀(rest pre:List bd),l=pre++rest->∀(u w:Nat)(z:ay)(b:Bool)(p:Pr),p.ins.length<=4096->
 bn ctx 6 (.loop (Code.at (codeOf f6) [1,1,1,1,0,1,0,0])) ⟨88,cB,[(2,true,.ptr 200 1 0),(5,true,.ptr 350 1 0),(6,true,.d (.bool b)),(17,true,.d (.list (l.map D.str))),(18,true,.d (.int .i64 l.length)),(19,true,.d (.int .i64 pre.length))],pM u w z p⟩ k=R (cQ rest pre.length b p)
 |[],pre,Y,u,w,z,b,p,q=>by
  have A7:pre.length=l.length:=by rw[Y];simp
  have Z:=Z u w z b p q;rw[A7,aN];simp[f6,pM,cQ]at Z⊢;rw[Z]
 |s::rest,pre,Y,u,w,z,b,p,q=>by
  have E:pre.length<l.length:=by rw[Y];simp
  have H:l[pre.length]=s:=by simp[Y]
  have AC:s.length<=262144:=A4 s (by rw[Y];simp);have ih:=λu w z b p=>xh l A6 A4 k R Z A rest (pre++[s]) (by simp[Y]) u w z b p;have A0:=ih u w z b p q;have T:=λu w z p h=>ih u w z true p h;clear ih;have I:=O2 s (by omega);have J:=dE ((pre.length:Int)+1);obtain⟨q1,q2⟩:=tp s [];rw[aN];unfold cQ;have A8:gK s=cv s []:=rfl;rw[<-A8]at q1 q2;generalize gK s=W at*;simp[-cM,f6,pM]at A0 T A⊢;rcases W with _|⟨a,r⟩
  .simp[-cM,E,H,I,J,A0]
  .obtain⟨A9,AD⟩:=q1 a (by simp);rcases a with _|⟨a0,a⟩
   .exact absurd rfl A9
   have st:∀x,fR (a0::x) 0=a0:=λ_=>rfl;have U:¬(r.length:Int)+1=0:=by omega
   have A1:∀w∈(a0::a)::r,w.length<=300000:=λw hw=>by have:=(q1 w hw).2;simp at this;omega
   have AE:r.length<=262144:=by have q3:r.length+1<=s.length+1:=q2;omega
   by_cases M:a0=35
   .have N:(a0.toNat:Int)=35:=by rw[M];rfl
    simp[-cM,E,H,I,J,U,st,N,A0];simp[M]
   have N:¬(a0.toNat:Int)=35:=λh=>M (Yx.1 (by simp;omega));cases b
   .by_cases c2:a0::a=[99,101,108,108,115]
    .rw[c2]at A1;have O:=Km ([99,101,108,108,115]::r) A1 (by simp;omega) p.ins.length p.v p.c (p.ins.map cU);have V:fR [99,101,108,108,115] 0=a0:=by rw[<-c2];rfl
     rcases r with _|⟨x,_|⟨y,_|⟨AF,r⟩⟩⟩
     .simp at O;simp[-cM,E,H,I,J,st,V,M,N,c2,O,A]
     .simp at O;simp[-cM,E,H,I,J,st,V,M,N,c2,O,A]
     .simp at O;have hh:(ei x=none\/ei y=none)↔¬((ei x).isSome=true/\(ei y).isSome=true):=by cases ei x<;>cases ei y<;>simp
      have A:=A u w z ⟨p.ins,(ei x).getD 0,(ei y).getD 0⟩;have T:=T u w z ⟨p.ins,(ei x).getD 0,(ei y).getD 0⟩ q;simp only at A T;by_cases A2:(ei x).isSome=true/\(ei y).isSome=true
      .simp[-cM,E,H,I,J,st,V,M,N,c2,O,T,hh,A2]
      .rw[hh.2 A2 |> λh=>(show ((ei x).isSome&&(ei y).isSome)=false by rcases h with h|h<;>simp[h])]at O;simp[-cM,E,H,I,J,st,V,M,N,c2,O,A,A2]
     .simp at O U;simp[-cM,E,H,I,J,U,st,V,M,N,c2,O,A]
    .simp at c2;have AA:¬a0=99\/¬a=[101,108,108,115]:=by by_cases h:a0=99<;>simp[h,c2]
     simp[-cM,E,H,I,J,U,st,M,N,AA,A];rw[Xz c2]
   .by_cases c2:a0=99/\a=[101,108,108,115]
    .have V:fR [99,101,108,108,115] 0=99:=rfl;simp[-cM,E,H,I,J,U,V,c2,A]
    .have hi:=O1 (a0::a) r A1 (by omega);obtain⟨x,e,A'⟩:∃x e,dK ((a0::a)::r)=(x,e):=⟨_,_,rfl⟩;rw[A']at hi;by_cases he:e=0
     .by_cases A3:p.ins.length=4096
      .simp[jb,he]at hi;have A5:=λz=>A u (w+1) z p;rw[A3]at A5;simp[-cM,E,H,I,J,U,st,M,N,c2,hi,A',he,A3,A5]
      .simp[jb,he]at hi;have AB:¬(p.ins.length:Int)=4096:=by omega
       have b1:(p.ins.length+1)*40<=140737488355328:=by omega
       have b2:p.ins.length<=4611686018427387903:=by omega
       have T:=λz=>T (u+1) (w+1) z ⟨p.ins++[x],p.v,p.c⟩ (by simp;omega);simp[cU]at T;simp[-cM,E,H,I,J,U,st,M,N,c2,hi,A',he,A3,AB,b1,b2,T]
     .simp[jb,he]at hi;simp[-cM,E,H,I,J,U,st,M,N,c2,hi,A',he,A]
def gp(q:Pr×Int×Int):AV:=.bc [.d (kF q.1.ins q.1.v q.1.c),.d (.int .i64 q.2.1),.d (.int .i64 q.2.2)]
def x4(c:UInt8):∀s cur:List UInt8,∀w∈iF c s cur,w.length<=s.length+cur.length
 |[],cur,w,hw=>by
  unfold iF at hw;simp at hw;simp[hw]
 |x::s,cur,w,hw=>by
  unfold iF at hw;split at hw
  .rcases Xm.1 hw with rfl|hw
   .simp
   .have:=x4 c s [] w hw;simp at this⊢;omega
  .have:=x4 c s (cur++[x]) w hw;simp at this⊢;omega
def Kn(t:bd):(∀s∈iG 10 t,s.length<=t.length)/\(iG 10 t).length<=t.length+1:=by
 refine⟨λs A=>?_,xZ 10 t []⟩;simpa using x4 10 t [] s A
def x5(t:bd)(O:t.length<=281474976710656):ar ctx 6 [.d (.str t)] []=some (.ret (gp (jo t)),[]):=by
 rw[Q9 (by simp)];unfold jo;by_cases I:262144<t.length
 .have E:(262144:Int)<(t.length:Int):=by omega
  simp[f6,I,E,gp,zP]
 have E:¬(262144:Int)<(t.length:Int):=by omega
 have A:=Iq t (by omega);obtain⟨q1,q2⟩:=Kn t;have D:=λk R M N w z=>xh (iG 10 t) (by omega) (λs A=>by have:=q1 s A;omega) k R M N (iG 10 t) [] rfl 1 w z false zP (by simp[zP]);simp[-cM,f6,pM,zP]at D;simp[f6,I,E,A];rw[D _ (λq=>some (.ret (gp q),[]))]
 .rfl
 .intro u w z;refine⟨λp D=>?_,λp D=>?_⟩
  .simp[cQ,gp,zP]
  .have H:=mw ew xU p.ins p.v p.c (by omega);simp at H;by_cases J:fx ew p.ins p.v p.c=true
   .simp[cQ,gp,H,J]
   .simp[cQ,gp,zP,H,J]
 .intro u w z p e j he;simp[gp,zP]
end Go.Am
end
section
namespace Go.Am
open Go
set_option maxRecDepth 20000
set_option maxHeartbeats 4000000
def CP(n:Int):(0<=n/\Go.Lib.itoa n=Go.Lib.decDigits n.toNat)\/(n<0/\Go.Lib.itoa n=45::Go.Lib.decDigits n.natAbs):=by
 unfold Go.Lib.itoa;split
 .exact .inr ⟨by assumption,rfl⟩
 .exact .inl ⟨by omega,rfl⟩
def GQ{u:Nat}(h:u<=9223372036854775808):(Go.Lib.decDigits u).length<=19:=by
 obtain⟨D,c2,c3⟩:=iH u;exact xR D (by rw[c2];exact h)
def kH(w:bd):Prop:=w≠[]/\∀c∈w,c≠32/\c≠10
def JB(u:Nat):kH (Go.Lib.decDigits u):=by
 obtain⟨⟨D,c2,_⟩,_,_⟩:=iH u;refine⟨D,λc A=>?_⟩;have:=c2 c A;refine⟨λe=>?_,λe=>?_⟩<;>(subst e;revert this;decide)
def pQ(n:Int):kH (Go.Lib.itoa n):=by
 rcases CP n with ⟨_,e⟩|⟨_,e⟩
 .rw[e];exact JB _
 .rw[e];refine⟨by simp,λc A=>?_⟩;rcases Xm.1 A with rfl|A
  .decide
  .exact (JB _).2 c A
def vq{n:Int}(h:bQ n):oL (Go.Lib.itoa n)=some n:=by
 have A0:oL (Go.Lib.itoa n)=vk (Go.Lib.itoa n):=rfl;rw[A0,Mz];rcases CP n with ⟨H,e⟩|⟨H,e⟩
 .obtain⟨D,c2,c3⟩:=iH n.toNat;rw[e];unfold qV;rw[Xq (wV D).1,Xz ⟨D,GQ (by have:=h.2;omega),by rw[c2];have:=h.2;omega⟩,c2];congr 1;omega
 .obtain⟨D,c2,c3⟩:=iH n.natAbs;rw[e];unfold qV;rw[Xz (by rfl)];simp only[List.tail_cons];have A:canon (Go.Lib.decDigits n.natAbs)/\(Go.Lib.decDigits n.natAbs).head?≠some 48/\(Go.Lib.decDigits n.natAbs).length<=19/\dk (Go.Lib.decDigits n.natAbs) 0<=9223372036854775808:=⟨D,c3 (by omega),GQ (by have:=h.1;omega),by rw[c2];have:=h.1;omega⟩;simp only[A,c2,and_self,ne_eq,not_false_eq_true,Yh];rw[Xz ⟨trivial,trivial,trivial,by have:=h.1;omega⟩];congr 1;omega
def q9{n:Int}(h:0<=n/\n<=65535):ei (Go.Lib.itoa n)=some n:=by
 simp[ei,vq (n:=n) (by unfold bQ;omega),h]
def mj(ws:List bd):bd:=ws.flatMap (32::·)
def BG:∀(ws:List bd)(cur:bd),cur≠[]->(∀w∈ws,kH w)->cv (mj ws) cur=cur::ws
 |[],cur,h,_=>by simp[cv,mj,h]
 |w::ws,cur,h,hw=>by
  have H:=hw w (by simp);have ih:=BG ws w H.1 (λx E=>hw x (by simp[E]));have e:mj (w::ws)=32::(w++mj ws):=by simp[mj]
  rw[e];have hw:cv (w++mj ws) []=cv (mj ws) w:=by
   have:=mR w (mj ws) [] (λx E=>(H.2 x E).1);simpa using this
  simp only[cv,Yh,hw,ih,h,X3]
def BH(w:bd)(ws:List bd)(h:∀x∈w::ws,kH x):gK (w++mj ws)=w::ws:=by
 unfold gK;rw[mR _ _ _ (λc A=>((h w (by simp)).2 c A).1)];exact BG ws _ (by simpa using (h w (by simp)).1) (λx E=>h x (by simp[E]))
def CQ(w:bd)(ws:List bd)(h:∀x∈w::ws,kH x):∀c∈w++mj ws,c≠10:=by
 intro c A;rcases XL.1 A with A|A
 .exact ((h w (by simp)).2 c A).2
 .simp only[mj,List.mem_flatMap]at A;obtain⟨x,E,A⟩:=A;rcases Xm.1 A with rfl|A
  .decide
  .exact ((h x (by simp[E])).2 c A).2
def bV(x:Ins):bd×List bd:=
 if x.op=1 then ([112,117,115,104],[Go.Lib.itoa x.n])
 else if x.op=2 then ([108,111,97,100],[Go.Lib.itoa x.a])
 else if x.op=3 then ([116,114,117,116,104],[Go.Lib.itoa x.a])
 else if x.op=4 then ([108,111,97,100,120],[Go.Lib.itoa x.a,Go.Lib.itoa x.n,Go.Lib.itoa x.m])
 else if x.op=5 then ([116,114,117,116,104,120],[Go.Lib.itoa x.a,Go.Lib.itoa x.n,Go.Lib.itoa x.m])
 else if x.op=6 then ([115,116,111,114,101],[Go.Lib.itoa x.a])
 else if x.op=7 then ([115,116,111,114,101,120],[Go.Lib.itoa x.a,Go.Lib.itoa x.n,Go.Lib.itoa x.m])
 else if x.op=8 then (if x.a=1 then [100,111,116]else [100,111],[ff.getD (x.b-6).toNat []])
 else if x.op=9 then ([106,117,109,112],[Go.Lib.itoa x.a])
 else if x.op=10 then ([110,111,116],[Go.Lib.itoa x.a])
 else if x.op=11 then ([116,105,99,107],[])
 else if x.op=12 then ([98,108,111,99,107],[fg x.b,Go.Lib.itoa x.a])
 else if x.op=13 then ([117,112,116,111],[Go.Lib.itoa x.a,Go.Lib.itoa x.b])
 else if x.op=14 then ([119,105,116,104,105,110],[Go.Lib.itoa x.a,Go.Lib.itoa x.n,Go.Lib.itoa x.m])
 else ([101,110,100],[])
def CS(x:Ins):dc fg x=(bV x).1++mj (bV x).2:=by
 unfold dc bV sp mj;by_cases I:x.op=1
 .simp[I]
 by_cases J:x.op=2
 .simp[J]
 by_cases M:x.op=3
 .simp[M]
 by_cases N:x.op=4
 .simp[N]
 by_cases O:x.op=5
 .simp[O]
 by_cases T:x.op=6
 .simp[T]
 by_cases U:x.op=7
 .simp[U]
 by_cases V:x.op=8
 .simp[V]
 by_cases W:x.op=9
 .simp[W]
 by_cases Y:x.op=10
 .simp[Y]
 by_cases Z:x.op=11
 .simp[Z]
 by_cases q:x.op=12
 .simp[q]
 by_cases y:x.op=13
 .simp[y]
 by_cases A':x.op=14
 .simp[A']
 simp[I,J,M,N,O,T,U,V,W,Y,Z,q,y,A']
end Go.Am
end
section
namespace Go.Am
open Go Go.Proofs Go.Proofs.Tryd
variable [Inhabited dI]
set_option maxRecDepth 20000
set_option maxHeartbeats 4000000
def Nv:∀i<16,kH (ff.getD i [])/\gU (ff.getD i []) ff 0=i:=by
 unfold kH;decide
def GR{k:Int}(I:k∈dS):mS (fg k)=k/\kH (fg k)/\k≠0:=by
 simp only[dS,Xm,Yg,or_false]at I;repeat' (obtain rfl|I:=I)
 all_goals first|(subst I;exact⟨by decide,by unfold kH;decide,by decide⟩)|exact⟨by decide,by unfold kH;decide,by decide⟩
def O3:∀p∈[([112,117,115,104],0),([108,111,97,100],1),([116,114,117,116,104],2),([108,111,97,100,120],3),([116,114,117,116,104,120],4),([115,116,111,114,101],5),([115,116,111,114,101,120],6),([100,111],7),([106,117,109,112],8),([110,111,116],9),([116,105,99,107],10),([98,108,111,99,107],11),([117,112,116,111],12),([119,105,116,104,105,110],13),([101,110,100],(14:Int))],jB p.1 eh 0 (-1)=p.2/\kH p.1:=by
 unfold kH;decide
def Ir{cells last at_:Int}(x:Ins)(Y:eL x)(E:cV ew cells last at_ x=true)(AM:0<=cells/\cells<=8192)(AN:last<=4095)(D:lF x=true):
 (∀w∈(bV x).1::(bV x).2,kH w)/\dK ((bV x).1::(bV x).2)=(x,0):=by
 have I:=oK E;obtain⟨o,a,b,n,m⟩:=x;have A2:o=1\/o=2\/o=3\/o=4\/o=5\/o=6\/o=7\/o=8\/o=9\/o=10\/o=11\/o=12\/o=13\/o=14\/o=15:=by
  unfold cV at E;grind
 have Z:=O3;simp only[Xm,Yg,or_false,forall_eq_or_imp,forall_eq]at Z;obtain⟨A3,A4,A5,A6,A7,A8,A9,q,AA,l10,AB,AC,AD,AE,AF⟩:=Z;have A:=q9 (n:=a);have W:=q9 (n:=b);have J:=vq Y.n;have M:=vq Y.m;have H:=pQ a;have AG:=pQ b;have N:=pQ n;have T:=pQ m;simp only at I J M;unfold lF dZ at D;have g1:eh[0]?=some ([112,117,115,104],[78]):=rfl;have g2:eh[1]?=some ([108,111,97,100],[65]):=rfl;have g3:eh[2]?=some ([116,114,117,116,104],[65]):=rfl;have g4:eh[3]?=some ([108,111,97,100,120],[65,78,77]):=rfl;have g5:eh[4]?=some ([116,114,117,116,104,120],[65,78,77]):=rfl;have g6:eh[5]?=some ([115,116,111,114,101],[65]):=rfl;have g7:eh[6]?=some ([115,116,111,114,101,120],[65,78,77]):=rfl;have g8:eh[7]?=some ([100,111],[111]):=rfl;have g9:eh[8]?=some ([106,117,109,112],[65]):=rfl;have g10:eh[9]?=some ([110,111,116],[65]):=rfl;have g11:eh[10]?=some ([116,105,99,107],[]):=rfl;have g12:eh[11]?=some ([98,108,111,99,107],[107,65]):=rfl;have g13:eh[12]?=some ([117,112,116,111],[65,66]):=rfl;have g14:eh[13]?=some ([119,105,116,104,105,110],[65,78,77]):=rfl;have g15:eh[14]?=some ([101,110,100],[]):=rfl;rcases A2 with rfl|rfl|rfl|rfl|rfl|rfl|rfl|rfl|rfl|rfl|rfl|rfl|rfl|rfl|rfl
 .simp at D;obtain⟨rfl,rfl,rfl⟩:=D;simp[bV,dK,A3,g1,cn,cA,pE,N,J]
 .simp at D;obtain⟨rfl,rfl,rfl⟩:=D;simp[cV,eD,jY]at E;have A:=A (by omega);simp[bV,dK,A4,g2,cn,cA,pE,H,A]
 .simp at D;obtain⟨rfl,rfl,rfl⟩:=D;simp[cV,eD,jY]at E;have A:=A (by omega);simp[bV,dK,A5,g3,cn,cA,pE,H,A]
 .simp at D;subst D;simp[cV,eD,jY]at E;have A:=A (by omega);simp[bV,dK,A6,g4,cn,cA,pE,H,A,N,J,T,M]
 .simp at D;subst D;simp[cV,eD,jY]at E;have A:=A (by omega);simp[bV,dK,A7,g5,cn,cA,pE,H,A,N,J,T,M]
 .simp at D;obtain⟨rfl,rfl,rfl⟩:=D;simp[cV,eD,jY]at E;have A:=A (by omega);simp[bV,dK,A8,g6,cn,cA,pE,H,A]
 .simp at D;subst D;simp[cV,eD,jY]at E;have A:=A (by omega);simp[bV,dK,A9,g7,cn,cA,pE,H,A,N,J,T,M]
 .simp at D;obtain⟨rfl,rfl⟩:=D;have AH:(a=0\/a=1)/\6<=b/\b<=21:=by
   simp[cV,vt]at E;by_cases y:a=0
   .simp[y]at E⊢;omega
   .by_cases A':a=1
    .simp[A']at E⊢;omega
    .simp[y,A']at E
  obtain⟨AI,AO,AP⟩:=AH;obtain⟨i,hi⟩:∃i:Nat,b=6+i:=⟨(b-6).toNat,by omega⟩;obtain⟨U,O⟩:=Nv i (by omega);subst hi;have A0:((6:Int)+(i:Int)-6).toNat=i:=by omega
  have V:¬(i:Int)<0:=by omega
  have A1:¬gU (ff.getD i []) ff 0<0:=by rw[O];omega
  rcases AI with rfl|rfl
  .simp[bV,dK,q,g8,cn,cA,A0,V]at U O A1⊢;simp[U,O,V]
  .have d:kH [100,111,116]:=by unfold kH;decide
   simp[bV,dK,q,g8,cn,cA,A0,V,d]at U O A1⊢;simp[U,O,V]
 .simp at D;obtain⟨rfl,rfl,rfl⟩:=D;simp[cV,eD,jY]at E;have A:=A (by omega);simp[bV,dK,AA,g9,cn,cA,pE,H,A]
 .simp at D;obtain⟨rfl,rfl,rfl⟩:=D;simp[cV,eD,jY]at E;have A:=A (by omega);simp[bV,dK,l10,g10,cn,cA,pE,H,A]
 .simp at D;obtain⟨rfl,rfl,rfl,rfl⟩:=D;simp[bV,dK,AB,g11,cn,cA,pE]
 .simp at D;obtain⟨rfl,rfl⟩:=D;simp[cV,eD,jY]at E;have A:=A (by omega);obtain⟨AJ,AK,AL⟩:=GR (I rfl);simp[bV,dK,AC,g12,cn,cA,pE,H,A,AJ,AK,AL]
 .simp at D;obtain⟨rfl,rfl⟩:=D;simp[cV,eD,jY]at E;have A:=A (by omega);have W:=W (by omega);simp[bV,dK,AD,g13,cn,cA,pE,H,A,AG,W]
 .simp at D;subst D;simp[cV,eD,jY]at E;have A:=A (by omega);simp[bV,dK,AE,g14,cn,cA,pE,H,A,N,J,T,M]
 .simp at D;obtain⟨rfl,rfl,rfl,rfl⟩:=D;simp[bV,dK,AF,g15,cn,cA,pE]
def Ko(x:Ins):(bV x).1.headD 0≠35/\(bV x).1≠[99,101,108,108,115]:=by
 unfold bV;by_cases I:x.op=1
 .simp[I]
 by_cases J:x.op=2
 .simp[J]
 by_cases M:x.op=3
 .simp[M]
 by_cases N:x.op=4
 .simp[N]
 by_cases Y:x.op=5
 .simp[Y]
 by_cases Z:x.op=6
 .simp[Z]
 by_cases q:x.op=7
 .simp[q]
 by_cases A':x.op=8
 .simp[A'];split<;>simp
 by_cases A0:x.op=9
 .simp[A0]
 by_cases A1:x.op=10
 .simp[A1]
 by_cases A2:x.op=11
 .simp[A2]
 by_cases A3:x.op=12
 .simp[A3]
 by_cases A4:x.op=13
 .simp[A4]
 by_cases A5:x.op=14
 .simp[A5]
 simp[I,J,M,N,Y,Z,q,A',A0,A1,A2,A3,A4,A5]
def tt{O:Int->bd}:∀{ci:List Ins}{L:bd},eg O ci=some L->(∀x∈ci,lF x=true)/\L=ci.flatMap λx=>dc O x++[10]
 |[],L,h=>by simp[eg]at h;simp[h]
 |x::r,L,h=>by
  unfold eg at h;split at h
  .rename_i A9;cases T:eg O r with
   |none=>simp[T]at h
   |some t=>
    simp[T]at h;obtain⟨i1,i2⟩:=tt T;refine⟨λy H=>?_,?_⟩
    .rcases Xm.1 H with rfl|H
     .exact A9
     .exact i1 y H
    .rw[<-h,i2];simp
  .exact absurd h (by simp)
def CT(u r:List UInt8)(h:∀x∈u,x≠10):iG 10 (u++10::r)=u::iG 10 r:=by
 unfold iG;rw[qT 10 u _ [] h];simp[iF]
def CU(f:Ins->bd):∀l:List Ins,(∀x∈l,∀c∈f x,c≠10)->iG 10 (l.flatMap λx=>f x++[10])=l.map f++[[]]
 |[],_=>rfl
 |a::l,h=>by
  have ih:=CU f l (λx E=>h x (by simp[E]));have e:((a::l).flatMap λx=>f x++[10])=f a++10::(l.flatMap λx=>f x++[10]):=by simp
  rw[e,CT _ _ (h a (by simp)),ih];rfl
def xk(v c:Int):∀(rest pre:List Ins)(i:Nat),(∀x∈rest,(∀w∈(bV x).1::(bV x).2,kH w)/\dK ((bV x).1::(bV x).2)=(x,0))->pre.length+rest.length<=4096->
 cQ (rest.map (dc fg)++[[]]) i true ⟨pre,v,c⟩=if fx ew (pre++rest) v c=true then (⟨pre++rest,v,c⟩,0,0)else (zP,1,0)
 |[],pre,i,_,_=>by
  have e:gK []=[]:=rfl;simp[cQ,e]
 |x::rest,pre,i,h,U=>by
  obtain⟨I,J⟩:=h x (by simp);obtain⟨M,N⟩:=Ko x;have ih:=xk v c rest (pre++[x]) (i+1) (λy H=>h y (by simp[H])) (by simp at U⊢;omega);have e:gK (dc fg x)=(bV x).1::(bV x).2:=by rw[CS];exact BH _ _ I
  have AA:¬pre.length=4096:=by simp at U;omega
  simp only[XU,YK,cQ,e,J];rw[Xq M,Xq (by simp[N]),Xq (by simp),Xq (by simp),Xq AA,ih];simp
def yW{ci:List Ins}{A D:Int}{t:bd}(h:gD ci A D=some t)(AB:∀x∈ci,eL x)(U:t.length<=262144):jo t=(⟨ci,A,D⟩,0,0):=by
 unfold gD at h;split at h
 .rename_i V;have hh:=V;simp only[fx,iJ,vu,Xl,XK]at hh;cases W:eg fg ci with
  |none=>simp[W]at h
  |some L=>
   simp only[W,Yc,Xn]at h;obtain⟨q1,q2⟩:=tt W;have A6:∀x∈ci,(∀w∈(bV x).1::(bV x).2,kH w)/\dK ((bV x).1::(bV x).2)=(x,0):=λx E=>by
    obtain⟨a,AC⟩:=vp V x E;exact Ir x (AB x E) AC (by omega) (by omega) (q1 x E)
   have A7:∀w∈[[99,101,108,108,115],Go.Lib.itoa A,Go.Lib.itoa D],kH w:=by
    intro w hw;simp only[Xm,Yg,or_false]at hw;rcases hw with rfl|rfl|rfl
    .unfold kH;decide
    .exact pQ A
    .exact pQ D
   have AD:t=([99,101,108,108,115]++mj [Go.Lib.itoa A,Go.Lib.itoa D])++10::L:=by rw[<-h];simp[mj,sp]
   have AE:iG 10 t=([99,101,108,108,115]++mj [Go.Lib.itoa A,Go.Lib.itoa D])::(ci.map (dc fg)++[[]]):=by
    rw[AD,CT _ _ (CQ _ _ A7),q2,CU _ _ (λx E=>by rw[CS];exact CQ _ _ (A6 x E).1)]
   have AF:gK ([99,101,108,108,115]++mj [Go.Lib.itoa A,Go.Lib.itoa D])=[[99,101,108,108,115],Go.Lib.itoa A,Go.Lib.itoa D]:=BH _ _ A7;have A8:=xk A D ci [] 1 A6 (by simp;omega);unfold jo;rw[Xq (by omega),AE];unfold cQ;simp only[AF,q9 (n:=A) (by omega),q9 (n:=D) (by omega)];simp[zP]at A8⊢;rw[A8,Xz V]
 .exact absurd h (by simp)
def GS{w:bd}:bQ ((oL w).getD 0):=by
 unfold oL;split
 .rename_i n h;split
  .exact JA h
  .unfold bQ;simp
 .unfold bQ;simp
def GU{w:bd}:bQ ((ei w).getD 0):=by
 unfold ei;cases oL w with
 |none=>unfold bQ;simp
 |some n=>
  simp only[X4];split
  .unfold bQ;simp;omega
  .unfold bQ;simp
def GW(x:Ins)(c:Int)(w:bd)(h:eL x)(q:bQ (mS w)):
 eL (cA x c w).1/\(cA x c w).1.op=x.op/\(c≠65->(cA x c w).1.a=x.a)/\(c≠66->c≠111->c≠107->(cA x c w).1.b=x.b)/\(c≠78->(cA x c w).1.n=x.n)/\(c≠77->(cA x c w).1.m=x.m):=by
 obtain⟨A,H,D,I⟩:=h;have hi:=xY w ff 0;have AC:ff.length=16:=rfl;unfold cA;by_cases V:c=65
 .simp[V];exact⟨GU,H,D,I⟩
 by_cases c2:c=66
 .simp[c2];exact⟨A,GU,D,I⟩
 by_cases c3:c=78
 .simp[c3];exact⟨A,H,GS,I⟩
 by_cases c4:c=77
 .simp[c4];exact⟨A,H,D,GS⟩
 by_cases c5:c=111
 .by_cases O:gU w ff 0<0
  .simp[c5,O];exact⟨A,H,D,I⟩
  .simp[c5,O];exact⟨A,by unfold bQ;simp;omega,D,I⟩
 by_cases W:c=107
 .simp[W];exact⟨A,q,D,I⟩
 simp[V,c2,c3,c4,c5,W];exact⟨A,H,D,I⟩
def Kp(w:bd):bQ (mS w):=by
 unfold mS;split
 .unfold bQ;simp
 .rw[YD];cases h:kO[(kG w kO 0).toNat]? with
  |none=>unfold bQ;simp
  |some t=>
   have:=(show ∀t∈kO,0<=t.k/\t.k<=100 by decide) t (Xk h);unfold bQ;simp;omega
def rf:∀(s:List UInt8)(ws:List bd)(x y:Ins),eL x->cn x s ws=(y,0)->
 eL y/\y.op=x.op/\(65∉s->y.a=x.a)/\(66∉s->111∉s->107∉s->y.b=x.b)/\(78∉s->y.n=x.n)/\(77∉s->y.m=x.m)
 |[],_,x,y,T,h=>by
  simp[cn]at h;subst h;exact⟨T,rfl,λ_=>rfl,λ_ _ _=>rfl,λ_=>rfl,λ_=>rfl⟩
 |c::r,[],x,y,T,h=>by simp[cn]at h
 |c::r,w::ws,x,y,T,h=>by
  have N:∀n:Nat,n<256->((c.toNat:Int)=n↔c=UInt8.ofNat n):=λn Y=>by
   rw[<-Yx];simp;omega
  obtain⟨A',A0,A1,A2,A3,A4⟩:=GW x c.toNat w T (Kp w);unfold cn at h;split at h
  .obtain⟨q0,q1,q2,q3,J,M⟩:=rf r ws _ y A' h;have A5:=N 65 (by omega);have A6:=N 66 (by omega);have A7:=N 78 (by omega);have A8:=N 77 (by omega);have A9:=N 111 (by omega);have AA:=N 107 (by omega);refine⟨q0,by rw[q1,A0],λE=>?_,λA H D=>?_,λE=>?_,λE=>?_⟩
   .simp at E;rw[q2 E.2,A1 (λe=>E.1 (A5.1 e).symm)]
   .simp at A H D;rw[q3 A.2 H.2 D.2,A2 (λe=>A.1 (A6.1 e).symm) (λe=>H.1 (A9.1 e).symm) (λe=>D.1 (AA.1 e).symm)]
   .simp at E;rw[J E.2,A3 (λe=>E.1 (A7.1 e).symm)]
   .simp at E;rw[M E.2,A4 (λe=>E.1 (A8.1 e).symm)]
  .rename_i Z;rw[h]at Z;exact absurd rfl Z
def It{ws:List bd}{x:Ins}(h:dK ws=(x,0)):eL x/\lF x=true:=by
 unfold dK at h;obtain⟨o,a,b,n,m⟩:=x;by_cases e:ws.headD []=[100,111,116]
 .have AB:jB [100,111] eh 0 (-1)=7:=by decide
  simp only[e,Yh,AB]at h;split at h
  .simp at h
  .have U:eL ⟨1+7,1,0,0,0⟩:=by refine⟨?_,?_,?_,?_⟩<;>(unfold bQ;simp)
   obtain⟨q0,q1,q2,q3,J,M⟩:=rf _ _ _ _ U h;refine⟨q0,?_⟩;simp[eh]at q1 q2 q3 J M;simp[lF,dZ,q1,q2,J,M]
 .have AD:=BE (ws.headD []) eh 0 (-1) (by omega);have AE:eh.length=15:=rfl;simp only[e,X3]at h;generalize jB (ws.headD []) eh 0 (-1)=j at*;split at h
  .simp at h
  .rename_i Y;have O:0<=j:=by
    apply Classical.byContradiction;intro O;exact Y (.inl (by omega))
   obtain⟨i,rfl⟩:∃i:Nat,j=i:=⟨j.toNat,by omega⟩;have hi:i<15:=by omega
   have U:eL ⟨1+(i:Int),0,0,0,0⟩:=by refine⟨?_,?_,?_,?_⟩<;>(unfold bQ;simp)
   obtain⟨q0,q1,q2,q3,J,M⟩:=rf _ _ _ _ U h;refine⟨q0,?_⟩;have ci:i=0\/i=1\/i=2\/i=3\/i=4\/i=5\/i=6\/i=7\/i=8\/i=9\/i=10\/i=11\/i=12\/i=13\/i=14:=by omega
   clear h q0;rcases ci with rfl|rfl|rfl|rfl|rfl|rfl|rfl|rfl|rfl|rfl|rfl|rfl|rfl|rfl|rfl;all_goals
    simp[eh]at q1 q2 q3 J M;simp[lF,dZ,q1,q2,q3,J,M]
def Ez(x:Ins):Prop:=eL x/\lF x=true
def yX:∀(l:List bd)(i:Nat)(b:Bool)(p q:Pr)(e j:Int),cQ l i b p=(q,e,j)->e≠0->q=zP
 |[],i,b,p,q,e,j,h,he=>by
  unfold cQ at h;split at h
  .cases h;rfl
  .split at h
   .cases h;exact absurd rfl he
   .cases h;rfl
 |s::r,i,b,p,q,e,j,h,he=>by
  have ih:=λi b p=>yX r i b p q e j;unfold cQ at h;split at h
  .exact ih _ _ _ h he
  .split at h
   .exact ih _ _ _ h he
   .split at h
    .cases h;rfl
    .split at h
     .split at h
      .split at h
       .exact ih _ _ _ h he
       .cases h;rfl
      .cases h;rfl
     .split at h
      .cases h;rfl
      .split at h
       .cases h;rfl
       .exact ih _ _ _ h he
def xl:∀(l:List bd)(i:Nat)(b:Bool)(p q:Pr)(j:Int),cQ l i b p=(q,0,j)->(∀x∈p.ins,Ez x)->
 j=0/\fx ew q.ins q.v q.c=true/\(∀x∈q.ins,Ez x)/\q.ins.length<=p.ins.length+l.countP (λs=>!s.isEmpty)
 |[],i,b,p,q,j,h,H=>by
  unfold cQ at h;split at h
  .cases h
  .split at h
   .rename_i E;cases h;exact⟨rfl,E,H,by simp⟩
   .cases h
 |s::r,i,b,p,q,j,h,H=>by
  have ih:=λi b p=>xl r i b p q j;have mono:∀n,q.ins.length<=n+r.countP (λs=>!s.isEmpty)->q.ins.length<=n+(s::r).countP (λs=>!s.isEmpty):=λn h=>by
   simp only[YJ];omega
  unfold cQ at h;split at h
  .obtain⟨i1,i2,i3,i4⟩:=ih _ _ _ h H;exact⟨i1,i2,i3,mono _ i4⟩
  .rename_i w ws hw;have W:s.isEmpty=false:=by
    cases s with
    |nil=>simp[gK,cv]at hw
    |cons a b=>rfl
   split at h
   .obtain⟨i1,i2,i3,i4⟩:=ih _ _ _ h H;exact⟨i1,i2,i3,mono _ i4⟩
   .split at h
    .cases h
    .split at h
     .split at h
      .split at h
       .obtain⟨i1,i2,i3,i4⟩:=ih _ _ _ h H;exact⟨i1,i2,i3,mono _ i4⟩
       .cases h
      .cases h
     .split at h
      .rename_i he;simp only[XB]at h;exact absurd h.2.1 he
      .rename_i he;split at h
       .cases h
       .have A:=It (ws:=w::ws) (x:=(dK (w::ws)).1) (by rw[<-Classical.not_not.1 he]);obtain⟨i1,i2,i3,i4⟩:=ih _ _ _ h (λx Y=>by
         rcases XL.1 Y with D|D
         .exact H x D
         .simp at D;rw[D];exact A)
        refine⟨i1,i2,i3,?_⟩;simp only[Xx,Yk,Yr]at i4;simp only[YJ,W];simp;omega
def x6:∀(s cur:List UInt8),2*(iF 10 s cur).countP (λs=>!s.isEmpty)<=s.length+cur.length+1
 |[],cur=>by
  unfold iF;cases cur<;>simp
 |x::s,cur=>by
  unfold iF;split
  .have:=x6 s [];cases cur<;>simp at this⊢<;>omega
  .have:=x6 s (cur++[x]);simp at this⊢;omega
def GX{l:List Ins}(h:∀x∈l,Ez x/\(dc fg x).length<=80):∃L,eg fg l=some L/\L.length<=81*l.length:=by
 induction l with
 |nil=>exact⟨[],rfl,by simp⟩
 |cons x r ih=>
  obtain⟨L,D,U⟩:=ih (λy Z=>h y (by simp[Z]));obtain⟨A,T⟩:=h x (by simp);refine⟨dc fg x++(10::L),?_,by simp;omega⟩;unfold eg;rw[Xz A.2,D];rfl
def BI{ci:List Ins}{I J:Int}(E:fx ew ci I J=true)(h:∀x∈ci,Ez x):∃s,gD ci I J=some s/\s.length<=81*ci.length+100/\bQ I/\bQ J:=by
 have hh:=E;simp only[fx,iJ,vu,Xl,XK]at hh;have M:bQ I:=by unfold bQ;omega
 have N:bQ J:=by unfold bQ;omega
 obtain⟨L,D,U⟩:=GX (l:=ci) (λx A=>by
  obtain⟨a,A'⟩:=vp E x A;exact⟨h x A,BC (h x A).1 (oK A')⟩)
 have A2:=dV M;have A3:=dV N;refine⟨_,by unfold gD;rw[Xz E,D];rfl,?_,M,N⟩;simp[sp];omega
def GY{ci:List Ins}{I J:Int}{s:bd}(h:gD ci I J=some s)(A0:∀x∈ci,eL x):s.length<=81*ci.length+100:=by
 have O:=h;unfold gD at O;split at O
 .rename_i E;cases V:eg fg ci with
  |none=>simp[V]at O
  |some L=>
   obtain⟨A4,e,T,_⟩:=BI E (λx A=>⟨A0 x A,(tt V).1 x A⟩);rw[h]at e;cases e;exact T
 .exact absurd O (by simp)
def EA{t:bd}{p:Pr}{j:Int}(T:t.length<=6000)(h:jo t=(p,0,j)):
 j=0/\p.ins.length<=3001/\(∀x∈p.ins,eL x)/\bQ p.v/\bQ p.c/\∃s,gD p.ins p.v p.c=some s/\s.length<=262144/\jo s=(p,0,0):=by
 unfold jo at h;rw[Xq (by omega)]at h;obtain⟨i1,i2,i3,i4⟩:=xl _ _ _ _ _ _ h (by simp[zP]);have U:2*(iG 10 t).countP (λs=>!s.isEmpty)<=t.length+0+1:=x6 t [];have A5:p.ins.length<=0+(iG 10 t).countP (λs=>!s.isEmpty):=i4;have A1:p.ins.length<=3001:=by omega
 obtain⟨s,s1,s2,M,N⟩:=BI i2 i3;exact⟨i1,A1,λx A=>(i3 x A).1,M,N,s,s1,by omega,yW s1 (λx A=>(i3 x A).1) (by omega)⟩
def Iu{t:bd}{p:Pr}{e j:Int}(h:jo t=(p,e,j))(he:e≠0):p=zP:=by
 unfold jo at h;split at h
 .cases h;rfl
 .exact yX _ _ _ _ _ _ _ h he
def Ny(t:List UInt8):∃n:Nat,(if (6000:Int)<t.length then (6000:Int)else t.length)=(n:Int)/\n<=t.length/\(n:Int)<=t.length/\(t.take n).length<=6000:=by
 by_cases h:6000<t.length
 .exact⟨6000,by rw[Xz (by omega)];rfl,by omega,by omega,by simp;omega⟩
 .exact⟨t.length,by rw[Xq (by omega)],by omega,by omega,by simp;omega⟩
def Ce(ci:List Ins)(E H:Int)(t:bd)(hw:∀i∈ci,eL i)(y:bQ E)(A':bQ H):ar ctx 3 [.d (kF ci E H),.d (.str t)] []=some (.ret (.d (.bool true)),[]):=by
 obtain⟨n,M,N,O,q⟩:=Ny t;obtain⟨u,hu⟩:∃u,t.take n=u:=⟨_,rfl⟩;rw[hu]at q;have T:=GL;rw[Q6 (by simp)];by_cases A5:ci.length<=300
 .have I:¬((300:Int)<ci.length):=by omega
  have A:=xW ci E H (by omega) hw y A';have D:=x5 u (by omega);obtain⟨p,e,j,Z⟩:∃p e j,jo u=(p,e,j):=⟨_,_,_,rfl⟩;rw[Z]at D;have a:=yY ci ci E H E H (by omega);have first:∀s,gD ci E H=some s->ar ctx 6 [.d (.str s)] []=some (.ret (gp (⟨ci,E,H⟩,0,0)),[]):=λs J=>by
   have A6:=GY J hw;rw[x5 s (by omega),yW J hw (by omega)]
  have second:(e≠0/\p=zP)\/(e=0/\∃s2,ar ctx 5 [.d (kF p.ins p.v p.c)] []=some (.ret (tj (some s2)),[])/\ar ctx 6 [.d (.str s2)] []=some (.ret (gp (p,0,0)),[])/\ar ctx 7 [.d (kF p.ins p.v p.c),.d (kF p.ins p.v p.c)] []=some (.ret (.d (.bool true)),[])):=by
   by_cases he:e=0
   .subst he;obtain⟨_,A7,A0,A1,A2,s2,A3,A8,A4⟩:=EA q Z;refine .inr ⟨rfl,s2,?_,?_,?_⟩
    .rw[xW p.ins p.v p.c (by omega) A0 A1 A2,A3]
    .rw[x5 s2 (by omega),A4]
    .rw[yY p.ins p.ins p.v p.c p.v p.c (by omega)];simp
   .exact .inl ⟨he,Iu Z he⟩
  simp at a;cases J:gD ci E H with
  |none=>
   rw[J]at A;rcases second with ⟨he,rfl⟩|⟨rfl,s2,U,V,W⟩
   .simp[tj,gp,zP]at A D;simp[f3,T,I,M,N,O,hu,A,D,he,eA]
   .simp[tj,gp]at A D U V W;simp[f3,T,I,M,N,O,hu,A,D,U,V,W,eA]
  |some s=>
   rw[J]at A;have Y:=first s J
   rcases second with ⟨he,rfl⟩|⟨rfl,s2,U,V,W⟩
   .simp[tj,gp,zP]at A D Y;simp[f3,T,I,M,N,O,hu,A,D,Y,a,he,eA]
   .simp[tj,gp]at A D Y U V W;simp[f3,T,I,M,N,O,hu,A,D,Y,a,U,V,W,eA]
 .have I:(300:Int)<ci.length:=by omega
  simp[f3,T,I,M,N,O,hu,eA]
end Go.Am
end
