/-
  Texts of one proof, one behind the other.
-/
import Derived.Test.YtjhbmdndjhgjlaaGreatDoorA1
import Derived.Test.YtjhbmdndjhgjlaaGreatDoorA2
import Derived.Test.YtjhbmdndjhgjlaaGreatDoorA3
import Derived.Test.YtjhbmdndjhgjlaaGreatDoorA4
import Derived.Test.YtjhbmdndjhgjlaaGreatDoorA5
import Derived.Test.YtjhbmdndjhgjlaaGreatDoorA6
import Derived.Lib.ItoaLen
set_option linter.all false
section
namespace Go.Am
open Go Go.Proofs Go.Proofs.Tryz
variable [Inhabited dx]
set_option maxRecDepth 20000
set_option maxHeartbeats 4000000
def cB{n:Int}(h:dw n):(Go.Lib.itoa n).length<=21:=Go.Lib.itoa_length_le n h.1 h.2
def px{n:Int}(h:dw n):au ctx 28 [.d (.int .i64 n)] []=some (.ret (.d (.str (sp n))),[]):=by
 have H:=cB h;have D:1+(Go.Lib.itoa n).length<=4611686018427387904:=by omega
 have E:Dc n:=h;rw[Nw (by simp)];simp[f28,D,E,sp]
def Ib:List (hP×hP):=[([112,117,115,104],[78]),([108,111,97,100],[65]),([116,114,117,116,104],[65]),([108,111,97,100,120],[65,78,77]),([116,114,117,116,104,120],[65,78,77]),([115,116,111,114,101],[65]),([115,116,111,114,101,120],[65,78,77]),([100,111],[111]),([106,117,109,112],[65]),([110,111,116],[65]),([116,105,99,107],[]),([98,108,111,99,107],[107,65]),([117,112,116,111],[65,66]),([119,105,116,104,105,110],[65,78,77]),([101,110,100],[])]
def G8:au ctx 54 [] []=some (.ret (.d (.list (Ib.map λp=>.agg [.str p.1,.str p.2]))),[]):=ez 50 (by kernel_rfl)
def NS:au ctx 55 [] []=some (.ret (.d (.list (jV.map .str))),[]):=ez 100 (by kernel_rfl)
def Um:List (Int×hP):=[(10,[84,79,78]),(11,[84,79,70]),(12,[84,80]),(13,[67,84,85]),(14,[67,84,68]),(15,[82,95,84,82,73,71]),(16,[70,95,84,82,73,71]),(17,[83,82]),(18,[82,83]),(20,[77,67,95,80,111,119,101,114]),(21,[77,67,95,72,111,109,101]),(22,[77,67,95,83,116,111,112]),(23,[77,67,95,72,97,108,116]),(24,[77,67,95,77,111,118,101,65,98,115,111,108,117,116,101]),(25,[77,67,95,77,111,118,101,82,101,108,97,116,105,118,101]),(26,[77,67,95,77,111,118,101,65,100,100,105,116,105,118,101]),(27,[77,67,95,77,111,118,101,86,101,108,111,99,105,116,121]),(28,[77,67,95,71,101,97,114,73,110]),(29,[77,67,95,82,101,115,101,116]),(30,[77,67,95,83,101,116,80,111,115,105,116,105,111,110]),(31,[77,67,95,83,101,116,79,118,101,114,114,105,100,101])]
def OP:List (Int×hP)->Int->hP
 |[],_=>[]
 |(a,t)::r,k=>if a=k then t else OP r k
def eC(k:Int):hP:=OP Um k
def wO{k:Int}(A:k∈dr):au ctx 56 [.d (.int .i64 k)] []=some (.ret (.d (.str (eC k))),[])/\au ctx 22 [.d (.int .i64 k)] []=some (.ret (.d (.str (eC k))),[])/\(eC k).length<=20:=by
 simp only[dr,WK,XH,or_false]at A;repeat' (obtain rfl|A:=A)
 all_goals first|(subst A;exact⟨ez 120 (by kernel_rfl),ez 120 (by kernel_rfl),by decide⟩)|exact⟨ez 120 (by kernel_rfl),ez 120 (by kernel_rfl),by decide⟩
def xN:∀d:Nat,d<10->(Utf8.encode ((48+d:Nat):Int)).data.toList=[UInt8.ofNat (48+d)]:=by decide
def xO{u:Nat}(h:u<=9223372036854775808):(Go.Lib.decDigits u).length<=21:=by
 by_cases hu:u<=9223372036854775807
 .have D:=cB (n:=(u:Int)) (by unfold dw;omega);rw[show Go.Lib.itoa (u:Int)=Go.Lib.decDigits u by unfold Go.Lib.itoa;rw[WO (by omega)];simp]at D;exact D
 .have D:=cB (n:= -(9223372036854775808:Int)) (by unfold dw;omega);rw[show Go.Lib.itoa (-(9223372036854775808:Int))=45::Go.Lib.decDigits 9223372036854775808 by unfold Go.Lib.itoa;rw[W2 (by omega)];rfl]at D;rw[show u=9223372036854775808 by omega];simp at D;omega
def G9{n:Int}(I:0<=n)(D:n<=18446744073709551615):IntKind.u64.wrap n=n:=by simp[IntKind.wrap,IntKind.bits,IntKind.signed];omega
def wP:∀(f u:Nat),u<f->u<=9223372036854775808->au ctx 60 [.d (.int .u64 u)] []=some (.ret (.d (.str (Go.Lib.decDigits u))),[])
 |0,u,U,_=>by omega
 |f+1,u,U,hu=>by
  rw[NI (by simp)];have A:∀d:Int,0<=d->d<10->IntKind.u64.wrap (48+d)=48+d:=λd I D=>G9 (by omega) (by omega);have H:∀d:Int,0<=d->d<10->IntKind.i32.wrap (48+d)=48+d:=λd I D=>by simp[IntKind.wrap,IntKind.bits,IntKind.signed];omega
  by_cases V:u<10
  .have E:=xN u V;rw[show ((48+u:Nat):Int)=48+(u:Int) by omega]at E;have e:Go.Lib.decDigits u=[UInt8.ofNat (48+u)]:=by rw[Go.Lib.decDigits,dif_pos (by omega)]
   have J:(u:Int)<10:=by omega
   have A:=A u (by omega) J;have H:=H u (by omega) J;rw[e];obtain⟨c,O⟩:∃c,UInt8.ofNat (48+u)=c:=⟨_,rfl⟩;rw[O]at E⊢;simp[f60,J,A,H,E,bU]
  .have J:¬(u:Int)<10:=by omega
   have ih:=wP f (u/10) (by omega) (by omega);have e:Go.Lib.decDigits u=Go.Lib.decDigits (u/10)++[UInt8.ofNat (48+u%10)]:=by rw[Go.Lib.decDigits,dif_neg (by omega)]
   have W:=xO (u:=u/10) (by omega);have E:=xN (u%10) (by omega);rw[show ((48+u%10:Nat):Int)=48+(u:Int)%10 by omega]at E;have A:=A ((u:Int)%10) (by omega) (by omega);have H:=H ((u:Int)%10) (by omega) (by omega);have Y:IntKind.u64.wrap ((u:Int)%10)=(u:Int)%10:=G9 (by omega) (by omega);have Z:IntKind.u64.wrap ((u:Int)/10)=(u:Int)/10:=G9 (by omega) (by omega);have a:(u:Int).tmod 10=(u:Int)%10:=Int.tmod_eq_emod_of_nonneg (by omega);have q:(u:Int).tdiv 10=(u:Int)/10:=Int.tdiv_eq_ediv_of_nonneg (by omega);rw[show ((u/10:Nat):Int)=(u:Int)/10 by omega]at ih;rw[e];obtain⟨c,O⟩:∃c,UInt8.ofNat (48+u%10)=c:=⟨_,rfl⟩;rw[O]at E⊢;have y:(Go.Lib.decDigits (u/10)).length+1<=4611686018427387904:=by omega
   simp[f60,J,a,q,A,H,Y,Z,E,ih,y,bU]
def py{n:Int}(M:dw n):au ctx 31 [.d (.int .i64 n)] []=some (.ret (.d (.str (Go.Lib.itoa n))),[]):=by
 rw[Nz (by simp)];by_cases I:n<0
 .have h:=wP _ n.natAbs (Nat.lt_succ_self _) (by have:=M.1;omega);have e:Go.Lib.itoa n=45::Go.Lib.decDigits n.natAbs:=by unfold Go.Lib.itoa;rw[W2 I]
  have A:IntKind.u64.wrap (-(IntKind.u64.wrap n))=(n.natAbs:Int):=by
   have:=M.1;simp[IntKind.wrap,IntKind.bits,IntKind.signed];omega
  have W:=xO (u:=n.natAbs) (by have:=M.1;omega);have A':1+(Go.Lib.decDigits n.natAbs).length<=4611686018427387904:=by omega
  have T:¬0<=n:=by omega
  simp[f31,T,A,h,e,bU,A']
 .have h:=wP _ n.toNat (Nat.lt_succ_self _) (by have:=M.2;omega);have e:Go.Lib.itoa n=Go.Lib.decDigits n.toNat:=by unfold Go.Lib.itoa;rw[WO I]
  have A:IntKind.u64.wrap n=(n.toNat:Int):=by
   have:=M.2;simp[IntKind.wrap,IntKind.bits,IntKind.signed];omega
  rw[show ((n.toNat:Nat):Int)=n by omega]at h A;have T:0<=n:=by omega
  simp[f31,T,A,h,e,bU]
def Md:au ctx 61 [] []=some (.ret (.d (.list (jV.map .str))),[]):=ez 50 (by kernel_rfl)
def Jh{A6:Int->Nat}{cells last at_:Int}(x:Ins)(h:mF x)(A:ea A6 cells last at_ x=true)(A0:x.op=12->x.b∈dr):
 au ctx 29 [.d (cA x)] []=some (.ret (.bk [.d (.str (cG eC x)),.d (cA (bC x))]),[]):=by
 obtain⟨o,a,b,n,m⟩:=x;have D:o=1\/o=2\/o=3\/o=4\/o=5\/o=6\/o=7\/o=9\/o=10\/o=11\/o=13\/o=14\/o=15\/o=8\/o=12:=by
  unfold ea at A;grind
 have E:=px h.a;have A1:=px h.b;have A2:=px h.n;have hm:=px h.m;have A7:=cB h.a;have A8:=cB h.b;have ln:=cB h.n;have lm:=cB h.m;have H:=G8;simp only at E A1 A2 hm A7 A8 ln lm A0 A;rw[Nx (by simp)];have w0:=cD 0;have I:=cD 1;have J:=cD 2;have M:=cD 3;have O:=cD 4;have T:=cD 5;have U:=cD 6;have V:=cD 7;have W:=cD 8;have Y:=cD 9;have Z:=cD 10;have c:=cD 11;have q:=cD 12;have y:=cD 13;have A':=cD 14;have q1:∀n:Int,(sp n).length=(Go.Lib.itoa n).length+1:=λn=>rfl;have q2:∀k:Nat,k<=100->k<=4611686018427387904:=λk h=>by omega
 rcases D with rfl|rfl|rfl|rfl|rfl|rfl|rfl|rfl|rfl|rfl|rfl|rfl|rfl|rfl|rfl
 case inr.inr.inr.inr.inr.inr.inr.inr.inr.inr.inr.inr.inr.inl=>
  have A9:(a=0\/a=1)/\6<=b/\b<=21:=by
   simp[ea,nM]at A;by_cases A3:a=0
   .simp[A3]at A⊢;omega
   .by_cases A4:a=1
    .simp[A4]at A⊢;omega
    .simp[A3,A4]at A
  obtain⟨AA,AJ,AK⟩:=A9;have AB:=cD (b-6);have D:=NS;have AC:(b-6).toNat<jV.length:=by simp[jV];omega
  obtain⟨t,A5,AL⟩:∃t,jV[(b-6).toNat]=t/\t.length<=10:=by
   have AD:∀t∈jV,t.length<=10:=by decide
   exact⟨jV[(b-6).toNat],rfl,AD _ (Xf AC)⟩
  have AE:jV[(b-6).toNat]?=some t:=by rw[<-A5];simp
  have AF:b-6<16:=by omega
  have AG:0<=b-6:=by omega
  have AH:jV.length=16:=rfl;rcases AA with rfl|rfl;all_goals
   simp[f29,bU,H,Ib,az,D,A5,AE,AB,AF,AG,AH,j9,w0,I,J,M,O,T,U,V,W,Y,Z,c,q,y,A',cG,bC]<;>omega
 case inr.inr.inr.inr.inr.inr.inr.inr.inr.inr.inr.inr.inr.inr=>
  obtain⟨AI,_,lk⟩:=wO (A0 rfl);simp[f29,bU,H,Ib,az,E,AI,j9,q1,w0,I,J,M,O,T,U,V,W,Y,Z,c,q,y,A',cG,bC]<;>omega
 all_goals
  simp[f29,bU,H,Ib,az,E,A1,A2,hm,j9,q1,w0,I,J,M,O,T,U,V,W,Y,Z,c,q,y,A',cG,bC]<;>omega
def NT:yc Tryz.prog 86=true:=by kernel_rfl
def NU:liesAt Tryz.prog Tryz.prog.depth 53 (2/Tryz.prog.cellsOf 53) 0 53 1=true:=by kernel_rfl
def Uo:tk Tryz.prog 147=.other:=by kernel_rfl
def Hb(n:Nat)(bs:List UInt8):au ctx 52 [.ptr 0 0 0] [.box [.tn 0 0 53,.vec 1 0 0 n],.buf 5 bs]=some (.ret (.bk []),[(0,.box [.ptr 0 0 0,.vec 1 0 0 n]),(0,.buf 5 bs)]):=by
 rw[Ia (by simp)];simp[f52,NT,NU,Uo,Tryz.underlying147,Tryz.underlying50]
def Hc(n:Nat)(bs:List UInt8):au ctx 52 [.ptr 0 0 0] [.box [.ptr 0 0 0,.vec 1 0 0 n],.buf 5 bs]=some (.ret (.bk []),[(0,.box [.ptr 0 0 0,.vec 1 0 0 n]),(0,.buf 5 bs)]):=by
 rw[Ia (by simp)];simp[f52]
def Mj(n:Nat)(bs s:List UInt8)(A:n=bs.length)(H:bs.length+s.length<=100000):au ctx 27 [.ptr 0 0 0,.d (.str s)] [.box [.tn 0 0 53,.vec 1 0 0 n],.buf 5 bs]=
 some (.ret (.bk [.d (.int .i64 s.length),.lit .nilIface]),[(0,.box [.ptr 0 0 0,.vec 1 1 0 (n+s.length)]),(1,.buf 5 (bs++s))]):=by
 subst A;have h:=Hb bs.length bs;have E:bs.length+s.length<=140737488355328:=by omega
 have D:bs.length+s.length<=4611686018427387904:=by omega
 rw[H9 (by simp)];simp[f27,h,E,D]
def Mk(n:Nat)(bs s:List UInt8)(A:n=bs.length)(H:bs.length+s.length<=100000):au ctx 27 [.ptr 0 0 0,.d (.str s)] [.box [.ptr 0 0 0,.vec 1 0 0 n],.buf 5 bs]=
 some (.ret (.bk [.d (.int .i64 s.length),.lit .nilIface]),[(0,.box [.ptr 0 0 0,.vec 1 1 0 (n+s.length)]),(1,.buf 5 (bs++s))]):=by
 subst A;have h:=Hc bs.length bs;have E:bs.length+s.length<=140737488355328:=by omega
 have D:bs.length+s.length<=4611686018427387904:=by omega
 rw[H9 (by simp)];simp[f27,h,E,D]
def NV:Tryz.prog.cellsOf 5=1:=by kernel_rfl
def Ml(n:Nat)(bs:List UInt8)(A:n=bs.length)(I:0<bs.length)(H:bs.length<=100000):au ctx 19 [.ptr 0 0 0] [.box [.ptr 0 0 0,.vec 1 0 0 n],.buf 5 bs]=
 some (.ret (.d (.str bs)),[(0,.box [.ptr 0 0 0,.aC]),(1,.dead)]):=by
 subst A;have D:bs.length<=4611686018427387904:=by omega
 rw[Nu (by simp)];simp[f19,bU,I,D,NV]
def Jj{c:Prop}[Decidable c]{a b:hP}(E:a.length<=80)(I:b.length<=80):(if c then a else b).length<=80:=by split<;>assumption
def Au{x:Ins}(h:mF x)(A7:x.op=12->x.b∈dr):(cG eC x).length<=80:=by
 have AM:=cB h.a;have AN:=cB h.b;have ln:=cB h.n;have lm:=cB h.m;have q1:∀n:Int,(sp n).length=(Go.Lib.itoa n).length+1:=λn=>rfl;have A8:∀i,(jV.getD i []).length<=10:=λi=>by
  rw[W8];cases h:jV[i]? with
  |none=>simp
  |some t=>exact (show ∀t∈jV,t.length<=10 by decide) t (WI h)
 have AO:=A8 (x.b-6).toNat;have M:x.op=12->(eC x.b).length<=20:=λh=>(wO (A7 h)).2.2;unfold cG;by_cases E:x.op=12
 .have:=M E;simp[E,q1];omega
 .simp only[E,Xw];have AP:((if x.a=1 then [100,111,116]else [100,111]):hP).length<=3:=by split<;>decide
  repeat' (refine Jj ?_ ?_)
  all_goals (try simp only[WY,X1,XU,q1])<;>omega
def vX(ci:List Ins)(A D:Int)(A0:ci.length<=300)(Z:∀x∈ci,au ctx 29 [.d (cA x)] []=some (.ret (.bk [.d (.str (cG eC x)),.d (cA (bC x))]),[])/\(cG eC x).length<=80)(k:Kt)(R:Option hP->dh)
 (E:∀m,k .ret ⟨42,b7,[(2,true,.d (.str [])),(3,true,.d (.int .i64 1))],m⟩=R none)
 (I:∀u bs v1 H v2 c2,0<bs.length->bs.length<=100000->k (.exit 0) ⟨42,b7,[(4,true,.ptr 300 1 0),(23,true,.d (.list (ci.map cA))),(24,true,.d (.int .i64 ci.length)),(25,true,.d (.int .i64 ci.length)),(26,true,.d (.bool false))],[⟨150,1,.box [.d (.list (ci.map cA)),.d (.int .i64 A),.d (.int .i64 D)]⟩,⟨300,1,.box [.ptr 300 1 0,.vec 310 u 0 bs.length]⟩,⟨310,u,.buf 5 bs⟩,⟨400,v1,H⟩,⟨500,v2,c2⟩]⟩=R (some bs)):
 ∀(rest pre:List Ins),ci=pre++rest->∀u bs v1 H v2 c2,0<bs.length->bs.length<=100+81*pre.length->
 bj ctx 10 (.loop (Code.at (codeOf f10) [1,1,1,1,0,1,0,0])) ⟨42,b7,[(4,true,.ptr 300 1 0),(23,true,.d (.list (ci.map cA))),(24,true,.d (.int .i64 ci.length)),(25,true,.d (.int .i64 pre.length))],[⟨150,1,.box [.d (.list (ci.map cA)),.d (.int .i64 A),.d (.int .i64 D)]⟩,⟨300,1,.box [.ptr 300 1 0,.vec 310 u 0 bs.length]⟩,⟨310,u,.buf 5 bs⟩,⟨400,v1,H⟩,⟨500,v2,c2⟩]⟩ k=R ((fc eC rest).map (bs++·))
 |[],pre,O,u,bs,v1,H,v2,c2,T,V=>by
  have A9:pre.length=ci.length:=by rw[O];simp
  rw[A9,az];have I:=I u bs v1 H v2 c2 T (by omega);simp[f10,fc,I]
 |x::rest,pre,O,u,bs,v1,H,v2,c2,T,V=>by
  have AA:pre.length<ci.length:=by rw[O];simp
  have J:ci[pre.length]=x:=by simp[O]
  obtain⟨A1,AQ⟩:=Z x (by rw[O];simp);have ih:=vX ci A D A0 Z k R E I rest (pre++[x]) (by simp[O]);have AB:=cD ((pre.length:Int)+1);have hw:=Mk bs.length bs (cG eC x++[10]) rfl (by simp;omega);have AC:(cG eC x).length+1<=4611686018427387904:=by omega
  rw[az];have A2:(bC x).op=x.op:=by unfold bC;grind
  have ih:=λH c2=>ih (u+1) (bs++(cG eC x++[10])) (v1+1) H (v2+1) c2 (by simp;omega) (by simp;omega);have AD:fc eC (x::rest)=if (bC x).a=x.a/\(bC x).b=x.b/\(bC x).n=x.n/\(bC x).m=x.m then (fc eC rest).map λt=>cG eC x++(10::t)else none:=by simp[fc,yl]
  rw[AD];obtain⟨o,a,b,n,m⟩:=x;generalize cG eC ⟨o,a,b,n,m⟩=ln at*;generalize bC ⟨o,a,b,n,m⟩=y at*;obtain⟨AR,AE,AF,AG,m'⟩:=y;simp only at A2;subst A2;simp[f10,AA,J]at ih⊢;simp at A1 hw;simp[A1,AC,hw,AB,ih,E];by_cases A3:AE=a/\AF=b/\AG=n/\m'=m
  .obtain⟨rfl,rfl,rfl,rfl⟩:=A3;simp[Function.comp_def]
  .rw[WO A3,W2 (by grind)];rfl
def kF(ci:List Ins)(A D:Int):Option hP:=
 if ja fJ ci A D=true then (fc eC ci).map λt=>[99,101,108,108,115]++(sp A++(sp D++(10::t)))else none
def pB:Option hP->AV
 |some t=>.bk [.d (.str t),.d (.int .i64 0)]
 |none=>.bk [.d (.str []),.d (.int .i64 1)]
def oz{cells last at_:Int}{x:Ins}(W:ea fJ cells last at_ x=true)(h:x.op=12):x.b∈dr:=by
 apply Classical.byContradiction;intro AH;have:=mG AH;simp[ea,h,fJ,this]at W
def Av{ci:List Ins}{A D:Int}(h:ja fJ ci A D=true):∀x∈ci,∃at_:Int,ea fJ D ((ci.length:Int)-1) at_ x=true:=by
 intro x J;obtain⟨i,hi⟩:=Ya J;simp only[ja,dI,WJ]at h;exact⟨_,nN h.1.1.2 i x hi⟩
def BP(ci:List Ins)(A D:Int)(A0:ci.length<=300)(A4:∀x∈ci,mF x)(A5:dw A)(A6:dw D):au ctx 10 [.d (mH ci A D)] []=some (.ret (pB (kF ci A D)),[]):=by
 have M:=qQ fJ BL ci A D (by omega);rw[Ns (by simp)];by_cases A':ja fJ ci A D=true
 .have Z:∀x∈ci,au ctx 29 [.d (cA x)] []=some (.ret (.bk [.d (.str (cG eC x)),.d (cA (bC x))]),[])/\(cG eC x).length<=80:=λx J=>by
   obtain⟨a,W⟩:=Av A' x J;exact⟨Jh x (A4 x J) W (oz W),Au (A4 x J) (oz W)⟩
  have AI:=λk R E I=>vX ci A D A0 Z k R E I ci [] rfl;have AJ:=px A5;have AK:=px A6;have AS:=cB A5;have AT:=cB A6;have q1:∀n:Int,(sp n).length=(Go.Lib.itoa n).length+1:=λn=>rfl;obtain⟨U,Y⟩:∃U,U=[99,101,108,108,115]++(sp A++(sp D++[10])):=⟨_,rfl⟩;have hw:=Mj 0 [] U rfl (by rw[Y];simp[q1];omega);have e:kF ci A D=(fc eC ci).map (U++·):=by simp[kF,A',Y]
  have V:U.length<=100:=by rw[Y];simp[q1];omega
  have T:0<U.length:=by rw[Y];simp
  rw[e];have H:5+(sp A).length<=4611686018427387904:=by rw[q1];omega
  have c2:(sp A).length+1+1+1+1+1+(sp D).length<=4611686018427387904:=by rw[q1,q1];omega
  have c3:(sp A).length+(sp D).length<=4611686018427387898:=by rw[q1,q1];omega
  subst Y;simp at M hw;have q:=λk E I u=>AI k (λo=>some (.ret (pB o),[])) E I u _ 0 .dead 0 .dead T V;simp[f10,bU,M,A',AJ,AK,hw,H,c2,c3]at q⊢;rw[q]
  .intro m;simp[pB]
  .intro u bs v1 H v2 c2 T V;have AL:=Ml bs.length bs rfl (by simpa using T) V;simp[AL,pB]
 .simp at M;simp[f10,bU,M,A',kF,pB]
def Jk{U:Int->Nat}{cells last at_:Int}(x:Ins)(h:mF x)(A:ea U cells last at_ x=true)(I:x.op=12->x.b∈dr):
 au ctx 32 [.d (cA x)] []=some (.ret (.d (.str (cG eC x))),[]):=by
 obtain⟨o,a,b,n,m⟩:=x;have H:o=1\/o=2\/o=3\/o=4\/o=5\/o=6\/o=7\/o=9\/o=10\/o=11\/o=13\/o=14\/o=15\/o=8\/o=12:=by
  unfold ea at A;grind
 have D:=py h.a;have J:=py h.b;have E:=py h.n;have hm:=py h.m;have V:=cB h.a;have W:=cB h.b;have ln:=cB h.n;have lm:=cB h.m;simp only at D J E hm V W ln lm I A;rw[NA (by simp)];rcases H with rfl|rfl|rfl|rfl|rfl|rfl|rfl|rfl|rfl|rfl|rfl|rfl|rfl|rfl|rfl
 case inr.inr.inr.inr.inr.inr.inr.inr.inr.inr.inr.inr.inr.inl=>
  have Y:(a=0\/a=1)/\6<=b/\b<=21:=by
   simp[ea,nM]at A;by_cases M:a=0
   .simp[M]at A⊢;omega
   .by_cases O:a=1
    .simp[O]at A⊢;omega
    .simp[M,O]at A
  obtain⟨Z,A4,A5⟩:=Y;have c:=cD (b-6);have H:=Md;have q:(b-6).toNat<jV.length:=by simp[jV];omega
  obtain⟨t,T,A6⟩:∃t,jV[(b-6).toNat]=t/\t.length<=10:=by
   have y:∀t∈jV,t.length<=10:=by decide
   exact⟨jV[(b-6).toNat],rfl,y _ (Xf q)⟩
  have A':jV[(b-6).toNat]?=some t:=by rw[<-T];simp
  have A0:b-6<16:=by omega
  have A1:0<=b-6:=by omega
  have A2:jV.length=16:=rfl;rcases Z with rfl|rfl;all_goals
   simp[f32,bU,D,E,hm,H,T,A',c,A0,A1,A2,cG]<;>omega
 case inr.inr.inr.inr.inr.inr.inr.inr.inr.inr.inr.inr.inr.inr=>
  obtain⟨_,A3,lk⟩:=wO (I rfl);simp[f32,bU,D,E,hm,A3,cG,sp]<;>omega
 all_goals
  simp[f32,bU,D,J,E,hm,cG,sp]<;>omega
def jK{α:Type}{p q:Prop}[Decidable p][Decidable q]{x y:α}:(if p then (if q then x else y)else y)=if p/\q then x else y:=by by_cases A:p<;>by_cases D:q<;>simp[A,D]
def jL{p q:Prop}[Decidable p][Decidable q]{R:Option hP->dh}{bs ln:hP}{r:Option hP}(h:p↔q):
 (if p then R (r.map λx=>bs++(ln++10::x))else R none)=R ((if q then r.map λt=>ln++10::t else none).map λx=>bs++x):=by
 by_cases A:p
 .rw[W2 A,W2 (h.1 A),Option.map_map];rfl
 .rw[WO A,WO (λD=>A (h.2 D))];rfl
def RS(o:Int):Prop:=∀(ci:List Ins)(E H:Int)(k:Kt)(R:Option hP->dh)(pre:List Ins)(a b n m:Int)(ln bs:hP)(v2:Nat)(c2:ax)(q:Option hP),
 (∀m,k .ret ⟨114,b7,[(2,true,.d (.str [])),(3,true,.d (.int .i64 1))],m⟩=R none)->∀I:pre.length<ci.length,ci[pre.length]=⟨o,a,b,n,m⟩->ci.length<=300->ln.length<=80->bs.length<=100+81*pre.length->
 au ctx 32 [.d (cA ⟨o,a,b,n,m⟩)] []=some (.ret (.d (.str ln)),[])->
 (∀c3,bj ctx 11 (.loop (Code.at (codeOf f11) [1,1,1,0,1,0,0])) ⟨114,b7,[(1,true,.ptr 150 1 0),(4,true,.d (.str (bs++(ln++[10])))),(5,true,.d (.int .i64 (pre.length+1:Nat)))],[⟨150,1,.box [.d (.list (ci.map cA)),.d (.int .i64 E),.d (.int .i64 H)]⟩,⟨400,v2+1,c3⟩]⟩ k=R (q.map (bs++(ln++[10])++·)))->
 bj ctx 11 (.loop (Code.at (codeOf f11) [1,1,1,0,1,0,0])) ⟨114,b7,[(1,true,.ptr 150 1 0),(4,true,.d (.str bs)),(5,true,.d (.int .i64 pre.length))],[⟨150,1,.box [.d (.list (ci.map cA)),.d (.int .i64 E),.d (.int .i64 H)]⟩,⟨400,v2,c2⟩]⟩ k=R ((if (bC ⟨o,a,b,n,m⟩).a=a/\(bC ⟨o,a,b,n,m⟩).b=b/\(bC ⟨o,a,b,n,m⟩).n=n/\(bC ⟨o,a,b,n,m⟩).m=m then q.map λt=>ln++(10::t)else none).map (bs++·))
def Uq:RS 1:=by
 intro ci O T k R pre a b n m ln bs v2 c2 q D E H U V W A ih;have I:=cD ((pre.length:Int)+1);have J:ln.length+1<=4611686018427387904:=by omega
 have M:bs.length+(ln.length+1)<=4611686018427387904:=by omega
 simp at A;simp[f11]at ih;rw[az];simp[f11,E,H,A,J,M,I,ih,D,bC];try simp only[jK]
 exact jL (R:=R) (bs:=bs) (ln:=ln) (r:=q) (by constructor<;>(intro h;omega))
def Ur:RS 2:=by
 intro ci O T k R pre a b n m ln bs v2 c2 q D E H U V W A ih;have I:=cD ((pre.length:Int)+1);have J:ln.length+1<=4611686018427387904:=by omega
 have M:bs.length+(ln.length+1)<=4611686018427387904:=by omega
 simp at A;simp[f11]at ih;rw[az];simp[f11,E,H,A,J,M,I,ih,D,bC];try simp only[jK]
 exact jL (R:=R) (bs:=bs) (ln:=ln) (r:=q) (by constructor<;>(intro h;omega))
def Us:RS 3:=by
 intro ci O T k R pre a b n m ln bs v2 c2 q D E H U V W A ih;have I:=cD ((pre.length:Int)+1);have J:ln.length+1<=4611686018427387904:=by omega
 have M:bs.length+(ln.length+1)<=4611686018427387904:=by omega
 simp at A;simp[f11]at ih;rw[az];simp[f11,E,H,A,J,M,I,ih,D,bC];try simp only[jK]
 exact jL (R:=R) (bs:=bs) (ln:=ln) (r:=q) (by constructor<;>(intro h;omega))
def Ut:RS 4:=by
 intro ci O T k R pre a b n m ln bs v2 c2 q D E H U V W A ih;have I:=cD ((pre.length:Int)+1);have J:ln.length+1<=4611686018427387904:=by omega
 have M:bs.length+(ln.length+1)<=4611686018427387904:=by omega
 simp at A;simp[f11]at ih;rw[az];simp[f11,E,H,A,J,M,I,ih,D,bC];try simp only[jK]
 exact jL (R:=R) (bs:=bs) (ln:=ln) (r:=q) (by constructor<;>(intro h;omega))
def Uu:RS 5:=by
 intro ci O T k R pre a b n m ln bs v2 c2 q D E H U V W A ih;have I:=cD ((pre.length:Int)+1);have J:ln.length+1<=4611686018427387904:=by omega
 have M:bs.length+(ln.length+1)<=4611686018427387904:=by omega
 simp at A;simp[f11]at ih;rw[az];simp[f11,E,H,A,J,M,I,ih,D,bC];try simp only[jK]
 exact jL (R:=R) (bs:=bs) (ln:=ln) (r:=q) (by constructor<;>(intro h;omega))
def Uv:RS 6:=by
 intro ci O T k R pre a b n m ln bs v2 c2 q D E H U V W A ih;have I:=cD ((pre.length:Int)+1);have J:ln.length+1<=4611686018427387904:=by omega
 have M:bs.length+(ln.length+1)<=4611686018427387904:=by omega
 simp at A;simp[f11]at ih;rw[az];simp[f11,E,H,A,J,M,I,ih,D,bC];try simp only[jK]
 exact jL (R:=R) (bs:=bs) (ln:=ln) (r:=q) (by constructor<;>(intro h;omega))
def Uw:RS 7:=by
 intro ci O T k R pre a b n m ln bs v2 c2 q D E H U V W A ih;have I:=cD ((pre.length:Int)+1);have J:ln.length+1<=4611686018427387904:=by omega
 have M:bs.length+(ln.length+1)<=4611686018427387904:=by omega
 simp at A;simp[f11]at ih;rw[az];simp[f11,E,H,A,J,M,I,ih,D,bC];try simp only[jK]
 exact jL (R:=R) (bs:=bs) (ln:=ln) (r:=q) (by constructor<;>(intro h;omega))
def Ux:RS 8:=by
 intro ci O T k R pre a b n m ln bs v2 c2 q D E H U V W A ih;have I:=cD ((pre.length:Int)+1);have J:ln.length+1<=4611686018427387904:=by omega
 have M:bs.length+(ln.length+1)<=4611686018427387904:=by omega
 simp at A;simp[f11]at ih;rw[az];simp[f11,E,H,A,J,M,I,ih,D,bC];try simp only[jK]
 exact jL (R:=R) (bs:=bs) (ln:=ln) (r:=q) (by constructor<;>(intro h;omega))
def Uy:RS 9:=by
 intro ci O T k R pre a b n m ln bs v2 c2 q D E H U V W A ih;have I:=cD ((pre.length:Int)+1);have J:ln.length+1<=4611686018427387904:=by omega
 have M:bs.length+(ln.length+1)<=4611686018427387904:=by omega
 simp at A;simp[f11]at ih;rw[az];simp[f11,E,H,A,J,M,I,ih,D,bC];try simp only[jK]
 exact jL (R:=R) (bs:=bs) (ln:=ln) (r:=q) (by constructor<;>(intro h;omega))
def P8:RS 10:=by
 intro ci O T k R pre a b n m ln bs v2 c2 q D E H U V W A ih;have I:=cD ((pre.length:Int)+1);have J:ln.length+1<=4611686018427387904:=by omega
 have M:bs.length+(ln.length+1)<=4611686018427387904:=by omega
 simp at A;simp[f11]at ih;rw[az];simp[f11,E,H,A,J,M,I,ih,D,bC];try simp only[jK]
 exact jL (R:=R) (bs:=bs) (ln:=ln) (r:=q) (by constructor<;>(intro h;omega))
def P9:RS 11:=by
 intro ci O T k R pre a b n m ln bs v2 c2 q D E H U V W A ih;have I:=cD ((pre.length:Int)+1);have J:ln.length+1<=4611686018427387904:=by omega
 have M:bs.length+(ln.length+1)<=4611686018427387904:=by omega
 simp at A;simp[f11]at ih;rw[az];simp[f11,E,H,A,J,M,I,ih,D,bC];try simp only[jK]
 exact jL (R:=R) (bs:=bs) (ln:=ln) (r:=q) (by constructor<;>(intro h;omega))
def Qa:RS 12:=by
 intro ci O T k R pre a b n m ln bs v2 c2 q D E H U V W A ih;have I:=cD ((pre.length:Int)+1);have J:ln.length+1<=4611686018427387904:=by omega
 have M:bs.length+(ln.length+1)<=4611686018427387904:=by omega
 simp at A;simp[f11]at ih;rw[az];simp[f11,E,H,A,J,M,I,ih,D,bC];try simp only[jK]
 exact jL (R:=R) (bs:=bs) (ln:=ln) (r:=q) (by constructor<;>(intro h;omega))
def Qb:RS 13:=by
 intro ci O T k R pre a b n m ln bs v2 c2 q D E H U V W A ih;have I:=cD ((pre.length:Int)+1);have J:ln.length+1<=4611686018427387904:=by omega
 have M:bs.length+(ln.length+1)<=4611686018427387904:=by omega
 simp at A;simp[f11]at ih;rw[az];simp[f11,E,H,A,J,M,I,ih,D,bC];try simp only[jK]
 exact jL (R:=R) (bs:=bs) (ln:=ln) (r:=q) (by constructor<;>(intro h;omega))
def Qc:RS 14:=by
 intro ci O T k R pre a b n m ln bs v2 c2 q D E H U V W A ih;have I:=cD ((pre.length:Int)+1);have J:ln.length+1<=4611686018427387904:=by omega
 have M:bs.length+(ln.length+1)<=4611686018427387904:=by omega
 simp at A;simp[f11]at ih;rw[az];simp[f11,E,H,A,J,M,I,ih,D,bC];try simp only[jK]
 exact jL (R:=R) (bs:=bs) (ln:=ln) (r:=q) (by constructor<;>(intro h;omega))
def Qd:RS 15:=by
 intro ci O T k R pre a b n m ln bs v2 c2 q D E H U V W A ih;have I:=cD ((pre.length:Int)+1);have J:ln.length+1<=4611686018427387904:=by omega
 have M:bs.length+(ln.length+1)<=4611686018427387904:=by omega
 simp at A;simp[f11]at ih;rw[az];simp[f11,E,H,A,J,M,I,ih,D,bC];try simp only[jK]
 exact jL (R:=R) (bs:=bs) (ln:=ln) (r:=q) (by constructor<;>(intro h;omega))
def vY(ci:List Ins)(D E:Int)(I:ci.length<=300)(J:∀x∈ci,au ctx 32 [.d (cA x)] []=some (.ret (.d (.str (cG eC x))),[])/\(cG eC x).length<=80/\1<=x.op/\x.op<=15)(k:Kt)(R:Option hP->dh)
 (M:∀m,k .ret ⟨114,b7,[(2,true,.d (.str [])),(3,true,.d (.int .i64 1))],m⟩=R none)
 (H:∀bs v2 c2,bs.length<=100000->k (.exit 0) ⟨114,b7,[(1,true,.ptr 150 1 0),(4,true,.d (.str bs)),(5,true,.d (.int .i64 ci.length)),(25,true,.d (.bool false))],[⟨150,1,.box [.d (.list (ci.map cA)),.d (.int .i64 D),.d (.int .i64 E)]⟩,⟨400,v2,c2⟩]⟩=R (some bs)):
 ∀(rest pre:List Ins),ci=pre++rest->∀bs v2 c2,bs.length<=100+81*pre.length->
 bj ctx 11 (.loop (Code.at (codeOf f11) [1,1,1,0,1,0,0])) ⟨114,b7,[(1,true,.ptr 150 1 0),(4,true,.d (.str bs)),(5,true,.d (.int .i64 pre.length))],[⟨150,1,.box [.d (.list (ci.map cA)),.d (.int .i64 D),.d (.int .i64 E)]⟩,⟨400,v2,c2⟩]⟩ k=R ((fc eC rest).map (bs++·))
 |[],pre,A,bs,v2,c2,O=>by
  have T:pre.length=ci.length:=by rw[A];simp
  rw[T,az];have H:=H bs v2 c2 (by omega);simp[f11,fc,H]
 |x::rest,pre,A,bs,v2,c2,O=>by
  have U:pre.length<ci.length:=by rw[A];simp
  have V:ci[pre.length]=x:=by simp[A]
  obtain⟨W,Y,Z,c⟩:=J x (by rw[A];simp);have ih:=λc2=>vY ci D E I J k R M H rest (pre++[x]) (by simp[A]) (bs++(cG eC x++[10])) (v2+1) c2 (by simp;omega);have A':=cD ((pre.length:Int)+1);have A0:(cG eC x).length+1<=4611686018427387904:=by omega
  have A1:bs.length+((cG eC x).length+1)<=4611686018427387904:=by omega
  have q:fc eC (x::rest)=if (bC x).a=x.a/\(bC x).b=x.b/\(bC x).n=x.n/\(bC x).m=x.m then (fc eC rest).map λt=>cG eC x++(10::t)else none:=by simp[fc,yl]
  rw[q];obtain⟨o,a,b,n,m⟩:=x;simp only at Z c;have y:o=1\/o=2\/o=3\/o=4\/o=5\/o=6\/o=7\/o=8\/o=9\/o=10\/o=11\/o=12\/o=13\/o=14\/o=15:=by omega
  have go:RS o:=by
   rcases y with rfl|rfl|rfl|rfl|rfl|rfl|rfl|rfl|rfl|rfl|rfl|rfl|rfl|rfl|rfl
   ·exact Uq
   ·exact Ur
   ·exact Us
   ·exact Ut
   ·exact Uu
   ·exact Uv
   ·exact Uw
   ·exact Ux
   ·exact Uy
   ·exact P8
   ·exact P9
   ·exact Qa
   ·exact Qb
   ·exact Qc
   ·exact Qd
  exact go ci D E k R pre a b n m _ bs v2 c2 _ M U V I Y O W (λc3=>by simpa using ih c3)
def fe(A:Int->Nat)(len cells:Int):Nat->List Ins->Bool
 |_,[]=>true
 |i,x::r=>jW A len cells i x&&fe A len cells (i+1) r
def gq(E:List Bool):Nat->List Ins->List Bool->Bool
 |_,[],_=>true
 |i,x::r,S=>if E.getD i false&&!S.isEmpty then false else match vS x S with
  |none=>false
  |some J=>gq E (i+1) r J
def iM(ins:List Ins):Bool:=(iY (di ins) (List.range ins.length).reverse (ins.length+1) (List.replicate ins.length false)).any (λb=>!b)
def sV(A:Int->Nat)(ins:List Ins)(vars cells:Int):Bool:=
 mu ins.length vars cells (gF ins)&&fe A ins.length cells 0 ins&&gq (fu ins) 0 ins []&&!(iM ins)
def me{A:Int->Nat}{len cells:Int}(I:0<=cells/\cells<=8192):∀(l:List Ins)(i:Nat),fe A len cells i l=fU A cells (len-1) i l
 |[],_=>rfl
 |x::r,i=>by rw[fe,fU,A7 I,me I r]
def Aw{A:Int->Nat}{cells last:Int}(E:List Bool):∀(l:List Ins)(i:Nat)(S:List Bool),fU A cells last i l=true->S.length<=64->gq E i l S=c8 E i l S
 |[],_,_,_,_=>rfl
 |x::r,i,S,D,O=>by
  simp only[fU,WJ]at D;rw[gq,c8,GX D.1 O];split
  .rfl
  .cases h:ia x S with
   |none=>rfl
   |some J=>exact Aw E r (i+1) J D.2 (qz O h)
def Dv{A:Int->Nat}{ins:List Ins}{vars cells:Int}(h:dI A ins vars cells=true):iM ins=true↔∃i<ins.length,¬Ends (di ins) i:=by
 have V:left (List.replicate ins.length false)<ins.length+1:=by
  have:left (List.replicate ins.length false)<=(List.replicate ins.length false).length:=X7;simp at this;omega
 obtain⟨M,H⟩:=pE (succ:=di ins) (N:=ins.length) (we h) (List.range ins.length).reverse (by simp) (ins.length+1) (List.replicate ins.length false) (by simp) V
  (λi hi W=>by simp[W8,XQ,hi]at W)
 unfold iM;generalize iY (di ins) (List.range ins.length).reverse (ins.length+1) (List.replicate ins.length false)=g at M H;simp only[List.any_eq_true];constructor
 .rintro ⟨b,Y,D⟩;obtain⟨i,hi,rfl⟩:=List.getElem_of_mem Y;refine⟨i,by omega,λhe=>?_⟩;have:=(H i (by omega)).2 he;simp[hi]at this;rw[this]at D;cases D
 .rintro ⟨i,hi,he⟩;have T:i<g.length:=by omega
  refine⟨g[i],Xf T,?_⟩;cases Z:g[i]with
  |false=>rfl
  |true=>exact absurd ((H i hi).1 (by simp[T,Z])) he
def Mn(A:Int->Nat)(ins:List Ins)(vars cells:Int):sV A ins vars cells=ja A ins vars cells:=by
 unfold sV ja dI;cases hh:mu ins.length vars cells (gF ins)with
 |false=>rfl
 |true=>
  have I:0<=cells/\cells<=8192:=by
   simp only[mu,WJ,WV]at hh;omega
  rw[me I];cases D:fU A cells ((ins.length:Int)-1) 0 ins with
  |false=>rfl
  |true=>
   have U:dI A ins vars cells=true:=by unfold dI;rw[hh,D];rfl
   rw[Aw (fu ins) ins 0 [] D (by simp)];have M:=Dv U;have H:=DG U;have:iM ins=rounds (cU ins) (ins.length+1) (List.range ins.length) (List.replicate ins.length 0):=by
    rw[Bool.eq_iff_iff,M,H]
   rw[this]
def ed(g:List Bool)(i:Nat)(x:Ins):Bool:=
 decide (x.op=11)||decide (x.op=15)||((decide (x.op=9)||g.getD (i+1) true)&&((!decide (x.op=9)&&!decide (x.op=10))||g.getD x.a.toNat true))
def A9(ins:List Ins)(g:List Bool)(more:Bool)(i:Nat)(hi:i<ins.length):
 hY (di ins) (g,more) i=if g.getD i true=true then (g,more)else if ed g i ins[i]=true then (g.set i true,true)else (g,more):=by
 unfold hY;simp only
 split
 .rfl
 .have:(di ins i).all (λj=>g.getD j true)=ed g i ins[i]:=by
   unfold di dN x8 ed;have A:ins[i]?=some ins[i]:=by simp[hi]
   rw[A];simp only[WV];by_cases Y:ins[i].op=11
   .simp[Y]
   by_cases T:ins[i].op=9
   .simp[T]
   by_cases O:ins[i].op=10
   .simp[O]
   by_cases V:ins[i].op=15
   .simp[V]
   simp[Y,T,O,V]
  rw[this]
section
variable (ins:List Ins) (vars cells:Int)
@[simp] def Ax(v:Nat)(D:ax)(g:List Bool):Mem:=[⟨150,1,.box [.d (.list (ins.map cA)),.d (.int .i64 vars),.d (.int .i64 cells)]⟩,⟨450,v,D⟩,⟨800,1,.vec 1 (bD g)⟩]
theorem uA(A3:l4 ins)(A0:ins.length<=5000)(k:Kt)(R:dh):
 ∀(m:Nat)(g:List Bool)(more:Bool),m<=ins.length->g.length=ins.length->
 (∀v D,k (.exit 2) ⟨82,b7,[(1,true,.ptr 150 1 0),(3,true,.d (.int .i64 ins.length)),(4,true,.vec 800 1 0 ins.length),(5,true,.d (.bool (eN (di ins) (List.range m).reverse (g,more)).2)),(6,true,.d (.int .i64 (-1))),(19,true,.d (.bool false))],Ax ins vars cells v D (eN (di ins) (List.range m).reverse (g,more)).1⟩=R)->
 ∀(v:Nat)(D:ax),bj ctx 59 (.loop (Code.at (codeOf f59) [1,1,1,0,1,0,0,1,0,1,1,0,0])) ⟨82,b7,[(1,true,.ptr 150 1 0),(3,true,.d (.int .i64 ins.length)),(4,true,.vec 800 1 0 ins.length),(5,true,.d (.bool more)),(6,true,.d (.int .i64 ((m:Int)-1)))],
  Ax ins vars cells v D g⟩ k=R
 |0,g,more,hm,A1,A,v,D=>by
  rw[az];simp[eN]at A;simp[f59,A]
 |m+1,g,more,hm,A1,A,v,D=>by
  have H:m<ins.length:=by omega
  have I:m<g.length:=by omega
  have AN:ins[m]?=some ins[m]:=by simp[H]
  obtain⟨i1,i2⟩:=A3 m ins[m] AN;have e:(List.range (m+1)).reverse=m::(List.range m).reverse:=by rw[List.range_succ];simp
  rw[e]at A;have es:eN (di ins) (m::(List.range m).reverse) (g,more)=eN (di ins) (List.range m).reverse (hY (di ins) (g,more) m):=rfl;rw[es,A9 ins g more m H]at A;have W:=cD ((m:Int)-1);have A8:=cD ((m:Int)+1);have AO:g.getD m true=g[m]:=by simp[I]
  rw[AO]at A;have J:=uA A3 A0 k R m g more (by omega) A1;have M:=uA A3 A0 k R m (g.set m true) true (by omega) (by simpa using A1);have A6:(bD g).set m (.bool true)=bD (g.set m true):=pz g m true;simp at A6;have q:¬((m:Int)+1<0):=by omega
  cases E:g[m];rotate_left
  .rw[E,W2 rfl]at A;replace J:=J A;rw[az];simp[f59]at J⊢;simp[H,I,E,W,J]
  have AA:¬(false=true):=by decide
  rw[E,WO AA]at A;by_cases Y:ins[m].op=11
  .have U:ed g m ins[m]=true:=by simp[ed,H,I,E,Y]
   rw[U,W2 rfl]at A;replace M:=M A;rw[az];simp[f59,Y]at M⊢;simp[H,I,E,W,A6,Y,M]
  by_cases V:ins[m].op=15
  .have U:ed g m ins[m]=true:=by simp[ed,H,I,E,V]
   rw[U,W2 rfl]at A;replace M:=M A;rw[az];simp[f59,V]at M⊢;simp[H,I,E,W,A6,V,M]
  by_cases T:ins[m].op=9
  .obtain⟨Z,a2⟩:=i1 (.inl T);have a3:ins[m].a.toNat<g.length:=by omega
   have a4:ins[m].a.toNat<ins.length:=by omega
   cases A2:g[ins[m].a.toNat]
   .have U:ed g m ins[m]=false:=by simp[ed,H,I,E,A2,Z,a3,a4,T]
    rw[U,WO AA]at A;replace J:=J A;rw[az];simp[f59,T]at J⊢;simp[H,I,E,A2,W,Z,a3,a4,T,J]
   .have U:ed g m ins[m]=true:=by simp[ed,H,I,E,A2,Z,a3,a4,T]
    rw[U,W2 rfl]at A;replace M:=M A;rw[az];simp[f59,T]at M⊢;simp[H,I,E,A2,W,Z,a3,a4,A6,T,M]
  have y:m+1<ins.length:=i2 T V;have A':m+1<g.length:=by omega
  by_cases O:ins[m].op=10
  .obtain⟨Z,a2⟩:=i1 (.inr O);have a3:ins[m].a.toNat<g.length:=by omega
   have a4:ins[m].a.toNat<ins.length:=by omega
   cases c:g[m+1]
   .have U:ed g m ins[m]=false:=by simp[ed,H,I,E,c,y,A',q,Z,a3,a4,O]
    rw[U,WO AA]at A;replace J:=J A;rw[az];simp[f59,O]at J⊢;simp[H,I,E,c,W,A8,y,A',q,Z,a3,a4,O,J]
   .cases A2:g[ins[m].a.toNat]
    .have U:ed g m ins[m]=false:=by simp[ed,H,I,E,A2,c,y,A',q,Z,a3,a4,O]
     rw[U,WO AA]at A;replace J:=J A;rw[az];simp[f59,O]at J⊢;simp[H,I,E,A2,c,W,A8,y,A',q,Z,a3,a4,O,J]
    .have U:ed g m ins[m]=true:=by simp[ed,H,I,E,A2,c,y,A',q,Z,a3,a4,O]
     rw[U,W2 rfl]at A;replace M:=M A;rw[az];simp[f59,O]at M⊢;simp[H,I,E,A2,c,W,A8,y,A',q,Z,a3,a4,A6,O,M]
  cases c:g[m+1]
  .have U:ed g m ins[m]=false:=by simp[ed,H,I,E,c,y,A',q,T,O,Y,V]
   rw[U,WO AA]at A;replace J:=J A;rw[az];simp[f59,T,O,Y,V]at J⊢;simp[H,I,E,c,W,A8,y,A',q,T,O,Y,V,J]
  .have U:ed g m ins[m]=true:=by simp[ed,H,I,E,c,y,A',q,T,O,Y,V]
   rw[U,W2 rfl]at A;replace M:=M A;rw[az];simp[f59,T,O,Y,V]at M⊢;simp[H,I,E,c,W,A8,y,A',q,A6,T,O,Y,V,M]
theorem Ay(A3:l4 ins)(A0:ins.length<=5000)(AB:∀i<ins.length,∀j∈di ins i,j<ins.length)(k:Kt)(R:dh):
 ∀(f:Nat)(g:List Bool),g.length=ins.length->left g<f->
 (∀v D,k (.exit 0) ⟨82,b7,[(1,true,.ptr 150 1 0),(3,true,.d (.int .i64 ins.length)),(4,true,.vec 800 1 0 ins.length),(15,true,.d (.bool false))],Ax ins vars cells v D (iY (di ins) (List.range ins.length).reverse f g)⟩=R)->
 ∀(X:Env),(X=[]\/X=[(6,true,.d (.int .i64 (-1))),(19,true,.d (.bool false))])->∀(v:Nat)(D:ax),bj ctx 59 (.loop (Code.at (codeOf f59) [1,1,1,0,1,0,0])) ⟨82,b7,[(1,true,.ptr 150 1 0),(3,true,.d (.int .i64 ins.length)),(4,true,.vec 800 1 0 ins.length),(5,true,.d (.bool true))]++X,
  Ax ins vars cells v D g⟩ k=R
 |0,g,A1,AP,A,X,AE,v,D=>by omega
 |f+1,g,A1,AP,A,X,AE,v,D=>by
  have W:=cD ((ins.length:Int)-1);obtain⟨ok,_⟩:=pD AB (List.range ins.length).reverse (g,false) A1 (λi hi=>by simpa using hi);unfold iY at A;have hi:=λk=>uA ins vars cells A3 A0 k R ins.length g false (by omega) A1;obtain⟨AF,b,AQ⟩:∃AF b,eN (di ins) (List.range ins.length).reverse (g,false)=(AF,b):=⟨_,_,rfl⟩;rw[AQ]at ok hi A;rw[az];cases b with
  |true=>
   have A4:=ok.less rfl rfl;have A5:=ok.len;simp only at A4 A5;have ih:=Ay A3 A0 AB k R f AF (by omega) (by omega) A _ (.inr rfl);simp[f59]at hi ih;rcases AE with rfl|rfl;all_goals
    simp[f59];simp[W];refine hi _ (λv D=>?_) _ _;simp[ih]
  |false=>
   simp[f59]at hi A;rcases AE with rfl|rfl;all_goals
    simp[f59];simp[W];refine hi _ (λv D=>?_) _ _;simp;rw[az];simp[A]
theorem BQ(k:Kt)(AC AD:dh)(g:List Bool)(A0:g.length<=5000)(v:Nat)(D:ax)
 (A4:k .ret ⟨82,b7,[(2,true,.d (.bool true))],Ax ins vars cells v D g⟩=AC)
 (A5:k (.exit 4) ⟨82,b7,[(3,true,.d (.int .i64 g.length)),(4,true,.vec 800 1 0 g.length),(9,true,.d (.int .i64 g.length)),(74,true,.d (.bool false))],Ax ins vars cells v D g⟩=AD):
 ∀(rest pre:List Bool),pre++rest=g->
 bj ctx 59 (.loop (Code.at (codeOf f59) [1,1,1,1,0,1,0,0])) ⟨82,b7,[(3,true,.d (.int .i64 g.length)),(4,true,.vec 800 1 0 g.length),(9,true,.d (.int .i64 pre.length))],
  Ax ins vars cells v D g⟩ k=if rest.any (λb=>!b)then AC else AD
 |[],pre,A7=>by
  simp at A7;subst A7;rw[az];simp at A5;simp[f59,A5]
 |b::rest,pre,A7=>by
  have AH:pre.length<g.length:=by rw[<-A7];simp
  have AI:g[pre.length]=b:=by simp[<-A7]
  have w:=cD ((pre.length:Int)+1);have ih:=BQ k AC AD g A0 v D A4 A5 rest (pre++[b]) (by simpa using A7);rw[az];cases b with
  |true=>
   simp[f59]at ih⊢;simp[AH,AI,w,ih]
  |false=>
   simp at A4;simp[f59];simp[AH,AI,A4]
theorem Dw(A3:l4 ins)(A0:ins.length<=5000)(AB:∀i<ins.length,∀j∈di ins i,j<ins.length):
 au ctx 59 [.d (mH ins vars cells)] []=some (.ret (.d (.bool (iM ins))),[]):=by
 have AJ:left (List.replicate ins.length false)<ins.length+1:=by
  have:left (List.replicate ins.length false)<=(List.replicate ins.length false).length:=X7;simp at this;omega
 have g1:(ins.length:Int)<=140737488355328/\(ins.length:Int)<=4611686018427387904:=by omega
 have AG:=λk A=>Ay ins vars cells A3 A0 AB k (some (.ret (.d (.bool (iM ins))),[])) (ins.length+1) (List.replicate ins.length false) (by simp) AJ A [] (.inl rfl);have AK:=(pE AB (List.range ins.length).reverse (by simp) (ins.length+1) (List.replicate ins.length false) (by simp) AJ (λi hi A1=>by simp[W8,XQ,hi]at A1)).1;have AL:iM ins=(iY (di ins) (List.range ins.length).reverse (ins.length+1) (List.replicate ins.length false)).any (λb=>!b):=rfl;generalize iY (di ins) (List.range ins.length).reverse (ins.length+1) (List.replicate ins.length false)=g at AG AK AL;have AM:=λk AC AD v D A4 A5=>BQ ins vars cells k AC AD g (by omega) v D A4 A5 g [] rfl;rw[NH (by simp)];simp[f59,AK]at AG AM⊢;simp[g1];refine AG _ (λv D=>?_) _ _;simp;rw[AM _ (some (.ret (.d (.bool true)),[])) (some (.ret (.d (.bool false)),[])) v D (by simp) (by simp)];rw[AL];cases E:g.any (λb=>!b)<;>simp_all
end
section
variable (ins:List Ins) (vars cells:Int)
@[simp] def Mo(A B:ax)(q E:Nat)(T:List Bool):Mem:=[⟨150,1,.box [.d (.list (ins.map cA)),.d (.int .i64 vars),.d (.int .i64 cells)]⟩,⟨450,q,A⟩,⟨550,E,B⟩,⟨2950,1,.vec 1 (bD T)⟩]
theorem FD(y:Int->Nat)(A8:kC 91 y)(A9:ins.length<=5000)(k:Kt)(V W:dh)(A B:ax)(q E:Nat)
 (Y:∀T,k .ret ⟨174,b7,[(2,true,.d (.bool false))],Mo ins vars cells A B q E T⟩=V):
 ∀(rest:List Ins)(i:Nat)(T:List Bool),ins.drop i=rest->i+rest.length=ins.length->T.length=ins.length->
 (fe y ins.length cells i rest=true->k (.exit 0) ⟨174,b7,[(1,true,.ptr 150 1 0),(3,true,.d (.int .i64 ins.length)),(4,true,.vec 2950 1 0 ins.length),(5,true,.d (.int .i64 ins.length)),(60,true,.d (.bool false))],Mo ins vars cells A B q E (rest.foldl cn T)⟩=W)->
 bj ctx 30 (.loop (Code.at (codeOf f30) [1,1,1,1,0,1,0,0])) ⟨174,b7,[(1,true,.ptr 150 1 0),(3,true,.d (.int .i64 ins.length)),(4,true,.vec 2950 1 0 ins.length),(5,true,.d (.int .i64 i))],
  Mo ins vars cells A B q E T⟩ k=if fe y ins.length cells i rest=true then W else V
 |[],i,T,A3,hi,AA,J=>by
  have hi:i=ins.length:=by simpa using hi
  subst hi;rw[az];simp[fe]at J;simp[f30,fe,J]
 |x::rest,i,T,A3,hi,AA,J=>by
  have H:i<ins.length:=by simp at hi;omega
  have A2:ins[i]=x:=by
   have:=Xi (·[0]?) A3;simp at this;simpa [H]using this
  have I:=Du y A8 ins vars cells i H A9;have Z:=cD ((i:Int)+1);rw[A2]at I;rw[fe,az];cases M:jW y ins.length cells i x with
  |false=>
   rw[M]at I;simp at I Y;simp[f30,H,I,Y]
  |true=>
   rw[M]at I;have ih:=FD y A8 A9 k V W A B q E Y rest (i+1) (cn T x) (by rw[<-List.tail_drop,A3];rfl) (by simp at hi;omega) (by rw[jn];exact AA) (λh=>J (by rw[fe,M,h];rfl));simp at I;by_cases A':x.op=9
   .have D:=M;simp[jW,A']at D;have a3:x.a.toNat<T.length:=by omega
    have e:cn T x=T.set x.a.toNat true:=by simp[cn,A']
    have A0:(bD T).set x.a.toNat (.bool true)=bD (T.set x.a.toNat true):=pz _ _ _;rw[e]at ih;simp at A0;simp[f30]at ih⊢;simp[H,I,A2,A',D,a3,Z,A0,ih,bU]
   by_cases A1:x.op=10
   .have D:=M;simp[jW,A1]at D;have a3:x.a.toNat<T.length:=by omega
    have e:cn T x=T.set x.a.toNat true:=by simp[cn,A1]
    have A0:(bD T).set x.a.toNat (.bool true)=bD (T.set x.a.toNat true):=pz _ _ _;rw[e]at ih;simp at A0;simp[f30]at ih⊢;simp[H,I,A2,A1,D,a3,Z,A0,ih,bU]
   have e:cn T x=T:=by simp[cn,A',A1]
   rw[e]at ih;simp[f30]at ih⊢;simp[H,I,A2,A',A1,Z,ih]
theorem vZ{need:Bool}{A:List Bool}:∀{r D:Nat}{S:List Bool},D+r<=A.length->ff need r (A.take (D+r))=some S->S=A.take D
 |0,D,S,h,c=>by simpa [ff]using c.symm
 |r+1,D,S,h,c=>by
  unfold ff at c;split at c
  .cases c
  .have e:(A.take (D+(r+1))).dropLast=A.take (D+r):=by
    rw[List.dropLast_eq_take,List.take_take,Xj];congr 1;omega
   rw[e]at c;exact vZ (by omega) c
theorem Dx(need:Bool)(A:List Bool)(r D:Nat)(h:D+(r+1)<=A.length):
 ff need (r+1) (A.take (D+(r+1)))=if need&&!(A[D+r]'(by omega))then none else ff need r (A.take (D+r)):=by
 have e:(A.take (D+(r+1))).dropLast=A.take (D+r):=by
  rw[List.dropLast_eq_take,List.take_take,Xj];congr 1;omega
 have AF:(A.take (D+(r+1))).getLastD true=A[D+r]'(by omega):=by
  rw[List.getLastD_eq_getLast?,XK,Xj,XC h,show D+(r+1)-1=D+r by omega];simp[show D+r<D+(r+1) by omega,show D+r<A.length by omega]
 rw[ff,e,AF]
@[simp] def BR(A:List Bool)(B:ax)(E:Nat)(T:List Bool):Mem:=[⟨150,1,.box [.d (.list (ins.map cA)),.d (.int .i64 vars),.d (.int .i64 cells)]⟩,⟨450,1,.vec 1 (bD A)⟩,⟨550,E,B⟩,⟨2950,1,.vec 1 (bD T)⟩]
theorem BS(k:Kt)(V W:dh)(A:List Bool)(B:ax)(E:Nat)(T:List Bool)(i O out D:Nat)(need A4:Bool)(AG:O<=1000)(AH:A.length=70)
 (Y:k .ret ⟨174,b7,[(2,true,.d (.bool false))],BR ins vars cells A B E T⟩=V)
 (J:k (.exit 4) ⟨174,b7,[(1,true,.ptr 150 1 0),(3,true,.d (.int .i64 ins.length)),(4,true,.vec 2950 1 0 ins.length),(6,true,.d (.int .i64 D)),(7,true,.bb 450 1 0 0),(8,true,.d (.int .i64 i)),(9,true,.ptr 550 E 0),(10,true,.d (.int .i64 O)),(11,true,.d (.int .i64 out)),(12,true,.d (.bool need)),(13,true,.d (.bool A4)),(14,true,.d (.int .i64 O)),(121,true,.d (.bool false))],BR ins vars cells A B E T⟩=W):
 ∀(r U:Nat),U+r=O->D+r<=A.length->
 bj ctx 30 (.loop (Code.at (codeOf f30) [1,1,1,1,1,1,1,0,1,0,0,1,0,0,1,1,1,1,0,1,0,0])) ⟨174,b7,[(1,true,.ptr 150 1 0),(3,true,.d (.int .i64 ins.length)),(4,true,.vec 2950 1 0 ins.length),(6,true,.d (.int .i64 (D+r:Nat))),(7,true,.bb 450 1 0 0),(8,true,.d (.int .i64 i)),(9,true,.ptr 550 E 0),(10,true,.d (.int .i64 O)),(11,true,.d (.int .i64 out)),(12,true,.d (.bool need)),(13,true,.d (.bool A4)),(14,true,.d (.int .i64 U))],
  BR ins vars cells A B E T⟩ k=if (ff need r (A.take (D+r))).isSome=true then W else V
 |0,U,A5,hh=>by
  have A5:U=O:=by omega
  subst A5;rw[az];simp at J;simp[f30,ff,J]
 |r+1,U,A5,hh=>by
  have Z:=cD ((U:Int)+1);have A6:IntKind.i64.wrap ((D:Int)+((r:Int)+1)-1)=(D:Int)+r:=by rw[(cD _)];omega
  have A7:U<O:=by omega
  have H:D+r<A.length:=by omega
  have AB:¬((D:Int)+r<0):=by omega
  have AC:¬((70:Int)<=(D:Int)+r):=by omega
  have AD:((D:Int)+r).toNat=D+r:=by omega
  have AE:(0:Int)<=(D:Int)+r:=by omega
  have ih:=BS k V W A B E T i O out D need A4 AG AH Y J r (U+1) (by omega) (by omega);rw[Dx need A r D hh,az];simp at Y;cases need with
  |false=>
   simp[f30]at ih⊢;simp[A7,Z,A6,ih]
  |true=>
   cases M:A[D+r]with
   |true=>
    simp[f30]at ih⊢;simp[A7,Z,A6,H,AB,AE,AC,AD,M,ih]
   |false=>
    simp[f30];simp[A7,Z,A6,H,AB,AE,AC,AD,M,Y]
def oT(h:Nat)(x:Ins):Bool:=decide (64<h)||(decide (0<h)&&(decide (x.op=9)||decide (x.op=10)||decide (x.op=11)||decide (x.op=12)||decide (x.op=15)))
theorem FE(x:Ins):(iX x).1<=2/\((iX x).2.1=0\/(iX x).2.1=1):=by
 unfold iX;repeat' split
 all_goals simp
end
section
variable (ins:List Ins) (vars cells:Int)
theorem FG(h:Nat)(x:Ins)(H E:dh)(AU:0<h)(A':h<=64):(if oT h x=true then H else E)=(if x.op=9 then H else if x.op=10 then H else if x.op=11 then H else if x.op=12 then H else if x.op=15 then H else E):=by
 grind [oT]
theorem FH(h:Nat)(x:Ins)(H E:dh)(A':64<h):(if oT h x=true then H else E)=H:=by
 grind [oT]
theorem FI(k:Kt)(H O:dh)(T:List Bool)(AH:T.length=ins.length)(AI:ins.length<=5000)
 (A2:∀A I B,k .ret ⟨174,b7,[(2,true,.d (.bool false))],BR ins vars cells A B I T⟩=H)
 (U:∀(h:Nat) A I B,k (.exit 2) ⟨174,b7,[(1,true,.ptr 150 1 0),(3,true,.d (.int .i64 ins.length)),(4,true,.vec 2950 1 0 ins.length),(6,true,.d (.int .i64 h)),(7,true,.bb 450 1 0 0),(8,true,.d (.int .i64 ins.length)),(93,true,.d (.bool false))],BR ins vars cells A B I T⟩=O):
 ∀(rest:List Ins)(i h:Nat)(A:List Bool)(I:Nat)(B:ax),ins.drop i=rest->i+rest.length=ins.length->A.length=70->h<=64->
 bj ctx 30 (.loop (Code.at (codeOf f30) [1,1,1,1,1,1,1,0,1,0,0])) ⟨174,b7,[(1,true,.ptr 150 1 0),(3,true,.d (.int .i64 ins.length)),(4,true,.vec 2950 1 0 ins.length),(6,true,.d (.int .i64 h)),(7,true,.bb 450 1 0 0),(8,true,.d (.int .i64 i))],
  BR ins vars cells A B I T⟩ k=if gq T i rest (A.take h)=true then O else H
 |[],i,h,A,I,B,A7,hi,A3,hh=>by
  have hi:i=ins.length:=by simpa using hi
  subst hi;have U:=U h A I B;rw[az];simp at U;simp[f30,gq,U]
 |x::rest,i,h,A,I,B,A7,hi,A3,hh=>by
  have W:i<ins.length:=by simp at hi;omega
  have Y:i<T.length:=by omega
  have A0:ins[i]=x:=by
   have:=Xi (·[0]?) A7;simp at this;simpa [W]using this
  have Z:=Dt x;obtain⟨AC,A8⟩:=FE x;have A9:=cD ((i:Int)+1);have c:(A.take h).length=h:=by simp;omega
  have AJ:(A.take h).isEmpty=decide (h=0):=by rw[<-Bool.not_inj_iff];cases q:A.take h with|nil=>(rw[q]at c;simp at c;subst c;simp)|cons a b=>(rw[q]at c;simp at c;simp;omega)
  have AK:T.getD i false=T[i]:=by simp[Y]
  have ih:=λh A I B=>FI k H O T AH AI A2 U rest (i+1) h A I B (by rw[<-List.tail_drop,A7];rfl) (by simp at hi;omega);have J:=λA I B=>A2 A I B;rw[gq,AK,AJ,az];unfold vS;rw[c];obtain⟨n,o,need,g,he⟩:∃n o need g,iX x=(n,o,need,g):=⟨_,_,_,_,rfl⟩;rw[he]at Z AC A8⊢;simp only at AC A8⊢;simp at J Z;by_cases V:T[i]=true/\h≠0
  .obtain⟨V,c2⟩:=V;have c3:0<h:=by omega
   simp[f30,W,Y,A0,V,c2,c3,J]
  have AL:(T[i]&&!decide (h=0))=false:=by
   cases M:T[i]<;>simp[M]at V⊢;exact V
  have A4:¬(T[i]=true/\0<h):=λq=>V ⟨q.1,by omega⟩;rw[AL];by_cases c2:h<n
  .simp[f30,W,Y,A0,A4,Z,c2,J]
  obtain⟨D,rfl⟩:∃D,h=D+n:=⟨h-n,by omega⟩;have y:=λk AM B I A2 U=>BS ins vars cells k H AM A B I T i n o D need g (by omega) A3 A2 U n 0 (by omega) (by omega);have AV:((D+n:Nat):Int)=(D:Int)+n:=by omega
  have c3:¬((D:Int)+n<n):=by omega
  simp only[WO c2,Bool.false_eq_true,Xw];have AD:=cD ((D:Int)+1);have AN:∀S1,ff need n (A.take (D+n))=some S1->S1=A.take D:=λS1 AO=>vZ (by omega) AO;simp[f30]at y;have fin:∀(A5:Nat)(S1 A6:List Bool),A6.length=A5->ff need n (A.take (D+n))=some S1->(if 0<o then S1++[g]else S1)=A6->
   (if oT A5 x=true then H else if gq T (i+1) rest A6=true then O else H)=
   (if (match (match ff need n (A.take (D+n))with
    |none=>none
    |some S1=>if (decide (64<(if 0<o then S1++[g]else S1).length)||(decide (0<(if 0<o then S1++[g]else S1).length)&&(decide (x.op=9)||decide (x.op=10)||decide (x.op=11)||decide (x.op=12)||decide (x.op=15))))=true then none else some (if 0<o then S1++[g]else S1))with
    |none=>false
    |some AP=>gq T (i+1) rest AP)=true then O else H):=by
   intro A5 S1 A6 AQ AR AS;rw[AR];simp only[AS,AQ];rw[<-oT];cases oT A5 x<;>simp
  have c4:¬(T[i]=true/\0<(D:Int)+n):=λq=>V ⟨q.1,by omega⟩;cases M:ff need n (A.take (D+n))with
  |none=>
   simp[f30,W,Y,A0,A4,Z,c2,c3,c4];rw[y _ _ _ _ (by simp[J]) rfl];simp[M]
  |some S1=>
   obtain rfl:=AN S1 M;rcases A8 with rfl|rfl
   .have ih:=λI B=>ih D A I B A3 (by omega);simp at y;have A1:=fin D (A.take D) (A.take D) (by simp;omega) M (by simp);rw[M]at A1;refine Eq.trans ?_ A1;simp[f30]at ih;simp[f30,W,Y,A0,A4,Z,c2,c3,c4];rw[y _ (if oT D x=true then H else if gq T (i+1) rest (A.take D)=true then O else H) _ _ (by simp[J])]
    .simp[M]
    .simp[J,A9,ih];grind [oT]
   .have AW:(bD A).set D (.bool g)=bD (A.set D g):=pz A D g;have AT:(A.set D g).take (D+1)=A.take D++[g]:=by
     rw[List.take_add_one,List.take_set_of_le (by omega)];simp[show D<A.length by omega]
    have AE:D<A.length:=by omega
    have AF:(D:Int)<70:=by omega
    have AG:D<70:=by omega
    have AA:=λI B=>J (A.set D g) I B;simp at AA;simp at y;have A1:=fin (D+1) (A.take D) (A.take D++[g]) (by simp;omega) M (by simp);rw[M]at A1;refine Eq.trans ?_ A1;simp[f30,W,Y,A0,A4,Z,c2,c3,c4];rw[y _ (if oT (D+1) x=true then H else if gq T (i+1) rest (A.take D++[g])=true then O else H) _ _ (by simp[J])]
    .simp[M]
    .by_cases A':D+1<=64
     .have AB:(D:Int)+1<=64:=by omega
      have ih:=λI B=>ih (D+1) (A.set D g) I B (by simpa using A3) A';rw[AT]at ih;simp[f30]at ih;rw[FG (D+1) x _ _ (by omega) A'];simp[J,AA,A9,AD,AE,AF,AG,ih,A',AB,bU]
     .have AB:¬((D:Int)+1<=64):=by omega
      rw[FH (D+1) x _ _ (by omega)];simp[J,AA,A9,AD,AE,AF,AG,AB,bU]
end
section
variable (ins:List Ins) (vars cells:Int)
theorem Jl(h:0<ins.length):ins[ins.length-1].op=gF ins:=by
 unfold gF;rw[XK];simp[show ins.length-1<ins.length by omega]
theorem Ba(J:Int->Nat)(A3:kC 91 J)(U:ins.length<=5000):
 au ctx 30 [.d (mH ins vars cells)] []=some (.ret (.d (.bool (sV J ins vars cells))),[]):=by
 have g1:(ins.length:Int)<=140737488355328/\(ins.length:Int)<=4611686018427387904:=by omega
 have Z:=λk A4 A5 A B A6 V W=>FD ins vars cells J A3 U k A4 A5 A B A6 V W ins 0 (List.replicate ins.length false) rfl (by simp) (by simp);rw[Ny (by simp)];unfold sV mu;by_cases E:ins=[]
 .simp[f30,E]
 have a:0<ins.length:=List.length_pos_iff.2 E;have A7:(1:Int)<=ins.length:=by omega
 have c:ins.length-1<ins.length:=by omega
 have q:IntKind.i64.wrap ((ins.length:Int)-1)=((ins.length-1:Nat):Int):=by rw[(cD _)];omega
 have y:=Jl ins a;by_cases D:(ins.length:Int)<=4096;rotate_left
 .simp[f30,E,D]
 by_cases H:0<=cells;rotate_left
 .simp[f30,E,D,H]
 by_cases I:cells<=8192;rotate_left
 .simp[f30,E,D,H,I]
 by_cases M:0<=vars;rotate_left
 .simp[f30,E,D,H,I,M]
 by_cases O:vars<=cells;rotate_left
 .simp[f30,E,D,H,I,M,O]
 by_cases Y:gF ins=15;rotate_left
 .simp[f30,E,D,H,I,M,O,q,c,y,Y]
 simp[f30]at Z;simp[f30,E,D,H,I,M,O,q,c,y,Y];simp[g1];rw[Z _ (some (.ret (.d (.bool false)),[])) (some (.ret (.d (.bool (gq (fu ins) 0 ins []&&!(iM ins)))),[])) _ _ _ _ (by simp)]
 .cases A':fe J ins.length cells 0 ins<;>simp[a,D,A7]
 .intro A0;have A1:dI J ins vars cells=true:=by
   unfold dI mu;rw[me ⟨H,I⟩]at A0;rw[A0];simp[D,H,I,M,O,Y];omega
  have A2:=Dw ins vars cells (xS A1) U (we A1);have A8:(fu ins).length=ins.length:=by
   have:∀(l:List Ins)(T:List Bool),(l.foldl cn T).length=T.length:=by
    intro l;induction l with
    |nil=>intro T;rfl
    |cons x l ih=>intro T;simp only[List.foldl_cons];rw[ih,jn]
   rw[show fu ins=ins.foldl cn (List.replicate ins.length false)from rfl,this];simp
  have A9:=λk W D=>FI ins vars cells k (some (.ret (.d (.bool false)),[])) (some (.ret (.d (.bool (!(iM ins)))),[])) (fu ins) A8 U W D ins 0 0 (List.replicate 70 false) 0 .dead rfl (by simp) (by simp) (by simp);simp at A2;simp[f30];refine (A9 _ (λA V B=>by simp) (λh A V B=>by simp[A2])).trans ?_;cases A':gq (fu ins) 0 ins []<;>simp[A']
end
def Jm(ci:List Ins)(A D:Int)(c:ci.length<=300)(V:∀x∈ci,mF x)(W:dw A)(Y:dw D):au ctx 11 [.d (mH ci A D)] []=some (.ret (pB (kF ci A D)),[]):=by
 have E:=Ba ci A D fJ G7 (by omega);rw[Mn]at E;rw[Nt (by simp)];by_cases H:ja fJ ci A D=true
 .have y:∀x∈ci,au ctx 32 [.d (cA x)] []=some (.ret (.d (.str (cG eC x))),[])/\(cG eC x).length<=80/\1<=x.op/\x.op<=15:=λx M=>by
   obtain⟨a,I⟩:=Av H x M;refine⟨Jk x (V x M) I (oz I),Au (V x M) (oz I),?_⟩;unfold ea at I;grind
  have A':=λk R O T=>vY ci A D c y k R O T ci [] rfl;have A0:=py W;have A1:=py Y;have A3:=cB W;have A4:=cB Y;obtain⟨J,U⟩:∃J,J=[99,101,108,108,115]++(sp A++(sp D++[10])):=⟨_,rfl⟩;have e:kF ci A D=(fc eC ci).map (J++·):=by simp[kF,H,U]
  have Z:J.length<=100:=by rw[U];simp[sp];omega
  rw[e];have A2:6+(Go.Lib.itoa A).length<=4611686018427387904:=by omega
  subst U;simp at E;have q:=λk O T=>A' k (λo=>some (.ret (pB o),[])) O T _ 0 .dead Z;simp[f11,bU,E,H,A0,A1,A2,sp]at q⊢;refine⟨by omega,by omega,by omega,?_⟩;rw[q]
  .intro m;simp[pB]
  .intro bs v2 c2 Z;simp[pB]
 .simp at E;simp[f11,bU,E,H,kF,pB]
def xV:List Ins:=[⟨11,0,0,0,0⟩,⟨1,0,0, -5,0⟩,⟨6,0,0,0,0⟩,⟨15,0,0,0,0⟩]
def Hf:au ctx 25 [.d (.str [99,101,108,108,115,32,49,32,49,10,116,105,99,107,10,101,110,100])] []=some (.ret (.bk [.d (.agg [.list [cA ⟨11,0,0,0,0⟩,cA ⟨15,0,0,0,0⟩],.int .i64 1,.int .i64 1]),.d (.int .i64 0),.d (.int .i64 0)]),[]):=ez 200 (by kernel_rfl)
def UH:Go.Lib.itoa 0=[48]:=by unfold Go.Lib.itoa;rw[WO (by decide),Go.Lib.decDigits,dif_pos (by decide)];rfl
def UI:Go.Lib.itoa 1=[49]:=by unfold Go.Lib.itoa;rw[WO (by decide),Go.Lib.decDigits,dif_pos (by decide)];rfl
def UJ:Go.Lib.itoa (-5)=[45,53]:=by unfold Go.Lib.itoa;rw[W2 (by decide),Go.Lib.decDigits,dif_pos (by decide)];rfl
def Jn:kF xV 1 1=some [99,101,108,108,115,32,49,32,49,10,116,105,99,107,10,112,117,115,104,32,45,53,10,115,116,111,114,101,32,48,10,101,110,100,10]:=by
 have h:ja fJ xV 1 1=true:=by
  have a:=qQ fJ BL xV 1 1 (by decide);have b:au ctx 26 [.d (mH xV 1 1)] []=some (.ret (.d (.bool true)),[]):=ez 100 (by kernel_rfl);rw[a]at b;simpa using b
 unfold kF;rw[W2 h];simp[xV,fc,yl,bC,cG,sp,UH,UI,UJ]
def FJ:au ctx 9 [] []=some (.ret (.d (.bool true)),[]):=by
 have A:=BP xV 1 1 (by decide) (λx O=>by
  simp only[xV,WK,XH,or_false]at O;rcases O with rfl|rfl|rfl|rfl<;>exact⟨by unfold dw;simp,by unfold dw;simp,by unfold dw;simp,by unfold dw;simp⟩) (by unfold dw;simp) (by unfold dw;simp)
 rw[Jn]at A;have T:=Hf;rw[P5 (by simp)];simp[xV,pB]at A T;simp[f9,A,T];rfl
def Az(ci:List Ins)(D E:Int)(hw:∀i∈ci,mF i)(U:dw D)(V:dw E):au ctx 4 [.d (mH ci D E)] []=some (.ret (.d (.bool true)),[]):=by
 rw[P4 (by simp)];have M:=FJ;by_cases A:ci.length<=300
 .have H:=BP ci D E A hw U V;have I:=Jm ci D E A hw U V;have J:¬((300:Int)<ci.length):=by omega
  cases W:kF ci D E with
  |none=>
   simp[W,pB]at H I;simp[f4,M,J,H,I]
  |some t=>
   simp[W,pB]at H I;simp[f4,M,J,H,I]
 .have J:(300:Int)<ci.length:=by omega
  simp[f4,M,J]
end Go.Am
end
