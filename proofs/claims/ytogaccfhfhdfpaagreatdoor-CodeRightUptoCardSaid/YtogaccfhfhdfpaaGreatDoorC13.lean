/-
  Texts of one proof, one behind the other.
-/
import Derived.Test.YtogaccfhfhdfpaaGreatDoorC1
import Derived.Test.YtogaccfhfhdfpaaGreatDoorC2
import Derived.Test.YtogaccfhfhdfpaaGreatDoorC3
import Derived.Test.YtogaccfhfhdfpaaGreatDoorC4
import Derived.Test.YtogaccfhfhdfpaaGreatDoorC5
import Derived.Test.YtogaccfhfhdfpaaGreatDoorC6
import Derived.Test.YtogaccfhfhdfpaaGreatDoorC7
import Derived.Test.YtogaccfhfhdfpaaGreatDoorC8
import Derived.Test.YtogaccfhfhdfpaaGreatDoorC9
import Derived.Test.YtogaccfhfhdfpaaGreatDoorC10
import Derived.Test.YtogaccfhfhdfpaaGreatDoorC11
import Derived.Shelf.Strings.Search3
import Derived.Shelf.Strings.Prefix
set_option linter.all false
section
namespace Go.Am
open Go Go.Proofs Go.Proofs.Tryz
variable [Inhabited bP]
set_option maxRecDepth 100000
set_option maxHeartbeats 8000000
def amu(e:EL):(eo e).1=0↔e.1=0:=by
 unfold eo;split<;>simp[*]
def ZY{p:Pg}(N:jD p.body=true)(hw:eH (gO p)<10000000):∃b,ak ctx 16 [.d (gO p)] []=some (.ret (.d (.bool b)),[])/\(b=true->JY p):=by
 obtain⟨I,J,U⟩:=GF (p:=p) (by simp only[gO]at hw;omega);obtain⟨B,H⟩:=ac3 I J;have D:=ah6 I J;cases B with
 |false=>
  refine⟨false,?_,by simp⟩;rw[Uk (by simp)];simp[f16,H]
 |true=>
  cases E:uT p with
  |false=>
   rw[E]at D;refine⟨false,?_,by simp⟩;rw[Uk (by simp)];simp[f16,H,D]
  |true=>
   rw[E]at D;have M:=XL E (by omega);unfold dV at M;refine⟨decide ((xl p).1=0),?_,λh=>⟨E,N,by simpa using h,hw⟩⟩;rw[Uk (by simp)];simp[f16,H,D,M,amu]
def ZZ{p:Pg}{g:List ax×Int×Int}(h:sZ p=some g):g.1.length<=4096:=by
 unfold sZ at h;simp only at h;split at h
 .cases h
 .cases h;simp only[aal,List.length_map,aao,aay];omega
def Z0{p:Pg}:ak ctx 18 [.d (Cn (sZ p)),.d (Cn (sZ p))] []=some (.ret (.d (.bool true)),[]):=by
 cases O:sZ p with
 |none=>
  have:=Lt [] [] 0 0 0 0 (by simp);simp only[Mf,amH]at this;simpa [Cn]using this
 |some g=>
  have:=Lt g.1 g.1 g.2.1 g.2.2 g.2.1 g.2.2 (by have:=ZZ O;omega);simp only[Mf]at this;simpa [Cn]using this
def gf(m:Nat)(s:Bool):D:=.agg [.int .u64 (q0 m:Nat),.int .u64 (q1 m:Nat),.int .u64 (q2 m:Nat),.int .u64 (q3 m:Nat),.bool s]
def BY(a b:Nat):(a:Int)+(b:Int)=((a+b:Nat):Int):=(Int.natCast_add a b).symm
def UH(a b:Nat):(a:Int)*(b:Int)=((a*b:Nat):Int):=(Int.natCast_mul a b).symm
def nB(a:Nat)(h:a<18446744073709551616):IntKind.u64.wrap (a:Int)=(a:Int):=by rw[IntKind.wrap_u64];omega
def AL(a:Nat):(a:Int).tdiv 4294967296=((a/4294967296:Nat):Int):=by rw[Int.tdiv_eq_ediv_of_nonneg (by omega)];omega
def AM(a:Nat):(a:Int).tmod 4294967296=((a%4294967296:Nat):Int):=by rw[Int.tmod_eq_emod_of_nonneg (by omega)];omega
def tu(m n:Nat)(s s2:Bool)(h:m+n<340282366920938463463374607431768211456):ak ctx 264 [.d (gf m s),.d (gf n s2)] []=some (.ret (.d (gf (m+n) s)),[]):=by
 obtain⟨A6,A7,A8,A9⟩:=aod m n h;obtain⟨a0,E,a2,a3⟩:=qn m;obtain⟨b0,AJ,AK,AN⟩:=qn n;unfold gf;rw[<-A6,<-A7,<-A8,<-A9];generalize q0 m=V at*;generalize q1 m=H at*;generalize q2 m=I at*;generalize q3 m=J at*;generalize q0 n=y at*;generalize q1 n=M at*;generalize q2 n=N at*;generalize q3 n=O at*;clear A6 A7 A8 A9;have A2:IntKind.u64.wrap ((V:Int)+y)=((V+y:Nat):Int):=by rw[BY,nB _ (by omega)]
 generalize AO:V+y=Z at*;have z0:IntKind.u64.wrap (Z:Int)=Z:=nB _ (by omega);have A3:IntKind.u64.wrap ((H:Int)+M)=((H+M:Nat):Int):=by rw[BY,nB _ (by omega)]
 have A_:IntKind.u64.wrap (((H+M:Nat):Int)+((Z/4294967296:Nat):Int))=((H+M+Z/4294967296:Nat):Int):=by rw[BY,nB _ (by omega)]
 generalize AP:H+M=AQ at*;generalize AB:Z/4294967296=AA at*;have A4:IntKind.u64.wrap ((I:Int)+N)=((I+N:Nat):Int):=by rw[BY,nB _ (by omega)]
 generalize Ar:AQ+AA=A' at*;have Aa:IntKind.u64.wrap (((I+N:Nat):Int)+((A'/4294967296:Nat):Int))=((I+N+A'/4294967296:Nat):Int):=by rw[BY,nB _ (by omega)]
 generalize AR:I+N=AS at*;generalize AC:A'/4294967296=U at*;have A5:IntKind.u64.wrap ((J:Int)+O)=((J+O:Nat):Int):=by rw[BY,nB _ (by omega)]
 generalize As:AS+U=A0 at*;have Ab:IntKind.u64.wrap (((J+O:Nat):Int)+((A0/4294967296:Nat):Int))=((J+O+A0/4294967296:Nat):Int):=by rw[BY,nB _ (by omega)]
 generalize AT:J+O=AU at*;generalize AD:A0/4294967296=AV at*;generalize At:AU+AV=A1 at*;have d0:=AL Z;have d1:=AL A';have d2:=AL A0;have d3:=AL A1;have AE:=AM Z;have AF:=AM A';have AG:=AM A0;have AH:=AM A1;have w0:IntKind.u64.wrap ((Z/4294967296:Nat):Int)=((Z/4294967296:Nat):Int):=nB _ (by omega);have AW:IntKind.u64.wrap ((A'/4294967296:Nat):Int)=((A'/4294967296:Nat):Int):=nB _ (by omega);have AX:IntKind.u64.wrap ((A0/4294967296:Nat):Int)=((A0/4294967296:Nat):Int):=nB _ (by omega);have Ac:IntKind.u64.wrap ((A1/4294967296:Nat):Int)=((A1/4294967296:Nat):Int):=nB _ (by omega);rw[AB]at d0 w0;rw[AC]at d1 AW;rw[AD]at d2 AX;generalize A1/4294967296=Au at*;generalize Z%4294967296=g0 at*;generalize A'%4294967296=g1 at*;generalize A0%4294967296=g2 at*;generalize A1%4294967296=g3 at*;rw[ahB (by simp)];simp[f264];rw[ag];simp[A2,z0,d0,AE,w0,ai];rw[ag];simp[A3,A_,d1,AF,AW,ai];rw[ag];simp[A4,Aa,d2,AG,AX,ai];rw[ag];simp[A5,Ab,d3,AH,Ac,ai];rw[ag];simp
def zB(m n:Nat):Int:=if m<n then-1 else if n<m then 1 else 0
def Sq(m n:Nat)(s s2:Bool)(hm:m<340282366920938463463374607431768211456)(AY:n<340282366920938463463374607431768211456):ak ctx 265 [.d (gf m s),.d (gf n s2)] []=some (.ret (.d (.int .i64 (zB m n))),[]):=by
 have Ad:=afc m n hm AY;have Ae:=afc n m AY hm;unfold gf zB;rw[ahC (by simp)];generalize q0 m=V at*;generalize q1 m=H at*;generalize q2 m=I at*;generalize q3 m=J at*;generalize q0 n=y at*;generalize q1 n=M at*;generalize q2 n=N at*;generalize q3 n=O at*;simp[f265];rw[ag];rcases Nat.lt_trichotomy J O with c|c|c
 .have E:m<n:=by omega
  simp[c,E,ai]
 .subst c;simp[ai];rw[ag];rcases Nat.lt_trichotomy I N with c|c|c
  .have E:m<n:=by omega
   simp[c,E,ai]
  .subst c;simp[ai];rw[ag];rcases Nat.lt_trichotomy H M with c|c|c
   .have E:m<n:=by omega
    simp[c,E,ai]
   .subst c;simp[ai];rw[ag];rcases Nat.lt_trichotomy V y with c|c|c
    .have E:m<n:=by omega
     simp[c,E,ai]
    .subst c;have E:¬m<n:=by omega
     have a2:¬n<m:=by omega
     simp[ai];rw[ag];simp[E,a2]
    .have E:¬m<n:=by omega
     have a2:n<m:=by omega
     have U:¬V<y:=by omega
     simp[c,U,E,a2,ai]
   .have E:¬m<n:=by omega
    have a2:n<m:=by omega
    have U:¬H<M:=by omega
    simp[c,U,E,a2,ai]
  .have E:¬m<n:=by omega
   have a2:n<m:=by omega
   have U:¬I<N:=by omega
   simp[c,U,E,a2,ai]
 .have E:¬m<n:=by omega
  have a2:n<m:=by omega
  have U:¬J<O:=by omega
  simp[c,U,E,a2,ai]
def G2(m n:Nat)(s s2:Bool)(hm:m<340282366920938463463374607431768211456)(h:n<=m):ak ctx 266 [.d (gf m s),.d (gf n s2)] []=some (.ret (.d (gf (m-n) s)),[]):=by
 obtain⟨A6,A7,A8,A9⟩:=aj8 m n _ _ _ _ hm h rfl rfl rfl rfl;obtain⟨a0,E,a2,a3⟩:=qn m;obtain⟨b0,AJ,AK,AN⟩:=qn n;unfold gf;rw[<-A6,<-A7,<-A8,<-A9];generalize q0 m=V at*;generalize q1 m=H at*;generalize q2 m=I at*;generalize q3 m=J at*;generalize q0 n=y at*;generalize q1 n=M at*;generalize q2 n=N at*;generalize q3 n=O at*;clear A6 A7 A8 A9;have key:∀(a b c x:Nat),a<4294967296->b<4294967296->c<=1->a+4294967296-b-c=x->
  IntKind.u64.wrap ((a:Int)+4294967296)=((a+4294967296:Nat):Int)/\IntKind.u64.wrap (((a+4294967296:Nat):Int)-(b:Int))=((a+4294967296-b:Nat):Int)/\
  IntKind.u64.wrap (((a+4294967296-b:Nat):Int)-(c:Int))=(x:Int)/\IntKind.u64.wrap ((x/4294967296:Nat):Int)=((x/4294967296:Nat):Int)/\IntKind.u64.wrap (1-((x/4294967296:Nat):Int))=((1-x/4294967296:Nat):Int)/\1-x/4294967296<=1:=by
  intro a b c x Ad Ae Av Aw;have Ax:x/4294967296<=1:=by omega
  refine⟨?_,?_,?_,nB _ (by omega),?_,by omega⟩<;>rw[IntKind.wrap_u64]<;>omega
 obtain⟨Af,Ag,AZ,Ah,Ai,Aj⟩:=key V y 0 (V+4294967296-y) a0 b0 (by omega) (by omega);generalize AO:V+4294967296-y=A2 at*;generalize Ak:1-A2/4294967296=AI at*;obtain⟨Al,s1,An,Ao,Ap,Aq⟩:=key H M AI (H+4294967296-M-AI) E AJ Aj (by omega);generalize AP:H+4294967296-M-AI=A3 at*;generalize AB:1-A3/4294967296=AA at*;obtain⟨t0,t1,t2,t3,t4,t5⟩:=key I N AA (I+4294967296-N-AA) a2 AK Aq (by omega);generalize AR:I+4294967296-N-AA=A4 at*;generalize AC:1-A4/4294967296=U at*;obtain⟨v0,v1,v2,v3,v4,v5⟩:=key J O U (J+4294967296-O-U) a3 AN t5 (by omega);generalize AT:J+4294967296-O-U=A5 at*;generalize AD:1-A5/4294967296=AV at*;have d0:=AL A2;have d1:=AL A3;have d2:=AL A4;have d3:=AL A5;have AE:=AM A2;have AF:=AM A3;have AG:=AM A4;have AH:=AM A5;generalize A2/4294967296=Ay at*;generalize A3/4294967296=AQ at*;generalize A4/4294967296=AS at*;generalize A5/4294967296=AU at*;generalize A2%4294967296=g0 at*;generalize A3%4294967296=g1 at*;generalize A4%4294967296=g2 at*;generalize A5%4294967296=g3 at*;generalize V+4294967296=Z at*;generalize H+4294967296=A' at*;generalize I+4294967296=A0 at*;generalize J+4294967296=A1 at*;generalize A'-M=Az at*;generalize A0-N=z2 at*;generalize A1-O=z3 at*;clear key AO Ak AP AB AR AC AT AD;simp at AZ;rw[ahD (by simp)];simp[f266];rw[ag];simp[Af,Ag,AZ,Ah,Ai,d0,AE,ai];rw[ag];simp[Al,s1,An,Ao,Ap,d1,AF,ai];rw[ag];simp[t0,t1,t2,t3,t4,d2,AG,ai];rw[ag];simp[v0,v1,v2,v3,v4,d3,AH,ai];rw[ag];simp
def uK(m:Nat)(s:Bool):Int:=if s=true then-(m:Int)else m
def Sr{m:Nat}(h:m<18446744073709551616):q0 m=m%4294967296/\q1 m=m/4294967296/\q2 m=0/\q3 m=0:=by unfold q0 q1 q2 q3;omega
def p8(a:Int)(N:dE a):ak ctx 235 [.d (.int .i64 a)] []=some (.ret (.d (gf a.natAbs (decide (a<0)))),[]):=by
 unfold dE at N;have J:a.natAbs<18446744073709551616:=by omega
 obtain⟨A7,A8,A9,AA⟩:=Sr J;unfold gf;rw[A7,A8,A9,AA];have M:=IntKind.wrap_u64 a;have A4:=AL a.natAbs;have A5:=AM a.natAbs;have wd:IntKind.u64.wrap ((a.natAbs/4294967296:Nat):Int)=((a.natAbs/4294967296:Nat):Int):=nB _ (by omega);rw[aht (by simp)];by_cases h:a<0
 .have D:IntKind.u64.wrap (-IntKind.u64.wrap a)=(a.natAbs:Nat):=by rw[M,IntKind.wrap_u64];omega
  generalize a.natAbs=x at*;generalize x/4294967296=AB at*;generalize x%4294967296=AC at*;simp[f235,h,D,A4,A5,wd,ai]
 .have D:IntKind.u64.wrap a=(a.natAbs:Nat):=by rw[M];omega
  generalize a.natAbs=x at*;generalize x/4294967296=AB at*;generalize x%4294967296=AC at*;simp[f235,h,D,A4,A5,wd,ai]
def UI(m:Nat)(s:Bool):ak ctx 236 [.d (gf m s)] []=some (.ret (.d (gf m (!s))),[]):=by
 rw[ahu (by simp)];unfold gf;simp[f236,ai]
def tR(m n:Nat)(s s2:Bool):Nat:=if s=s2 then m+n else if n<=m then m-n else n-m
def yM(m n:Nat)(s s2:Bool):Bool:=if s=s2 then s else if n<=m then s else s2
def P7(m n:Nat)(s s2:Bool)(h:m+n<340282366920938463463374607431768211456):ak ctx 234 [.d (gf m s),.d (gf n s2)] []=some (.ret (.d (gf (tR m n s s2) (yM m n s s2))),[]):=by
 have M:=tu m n s s2 h;have D:=Sq m n s s2 (by omega) (by omega);have E:=λA2=>G2 m n s s2 (by omega) A2;have H:=λA2=>G2 n m s2 s (by omega) A2;rw[ahs (by simp)];unfold tR yM;unfold gf at*;by_cases J:s=s2
 .subst J;simp[f234,M,ai]
 .by_cases hle:n<=m
  .have E:=E hle;have A3:0<=zB m n:=by unfold zB;rw[aaf (by omega)];split<;>omega
   have AQ:¬(s == s2)=true:=by simpa using J
   simp only[aaf J,aav hle];simp[f234,D,E,J,A3,ai]
  .have H:=H (by omega);have A3:¬0<=zB m n:=by unfold zB;rw[aav (by omega)];omega
   simp only[aaf J,aaf hle];simp[f234,D,H,J,A3,ai]
def xF(m:Nat)(s:Bool)(hm:m<340282366920938463463374607431768211456):ak ctx 233 [.d (gf m s)] []=some (.ret (Ln (gj (uK m s))),[]):=by
 rw[ahr (by simp)];have AR:=Gt hm;obtain⟨a0,AS,a2,a3⟩:=qn m;unfold gf gj uK;generalize q0 m=A6 at*;generalize q1 m=A0 at*;generalize q2 m=AD at*;generalize q3 m=AE at*;by_cases D:AD=0
 .by_cases E:AE=0
  .have AT:(A0*4294967296+A6:Nat)=m:=by omega
   have O:IntKind.u64.wrap ((A0:Int)*4294967296)=((A0*4294967296:Nat):Int):=by rw[IntKind.wrap_u64];omega
   have U:IntKind.u64.wrap (((A0*4294967296:Nat):Int)+(A6:Int))=(m:Int):=by rw[IntKind.wrap_u64];omega
   have AF:=IntKind.wrap_i64 (m:Int);have AU:=IntKind.wrap_i64 (-IntKind.i64.wrap (m:Int));simp at O U;by_cases A1:m<9223372036854775808
   .have V:(m:Int)<9223372036854775808:=by omega
    have I:(m:Int)<=9223372036854775807:=by omega
    have AG: -9223372036854775808<=(m:Int):=by omega
    have AH: -9223372036854775808<= -(m:Int):=by omega
    have AI: -(m:Int)<=9223372036854775807:=by omega
    have AJ:IntKind.i64.wrap (m:Int)=m:=by rw[AF];omega
    have AK:IntKind.i64.wrap (-(m:Int))= -(m:Int):=by rw[IntKind.wrap_i64];omega
    cases s<;>simp[f233,D,E,O,U,V,I,AG,AH,AI,AJ,AK]
   .have V:¬(m:Int)<9223372036854775808:=by omega
    have I:¬(m:Int)<=9223372036854775807:=by omega
    cases s
    .simp[f233,D,E,O,U,V,I]
    .by_cases he:m=9223372036854775808
     .subst he;simp[f233,D,E,O,U,V,I]
     .have AN:¬(m:Int)=9223372036854775808:=by omega
      have Z:¬ -9223372036854775808<= -(m:Int):=by omega
      simp[f233,D,E,O,U,V,I,AN,Z]
  .have I:¬(m:Int)<=9223372036854775807:=by omega
   have Z:¬ -9223372036854775808<= -(m:Int):=by omega
   cases s<;>simp[f233,D,E,I,Z]
 .have I:¬(m:Int)<=9223372036854775807:=by omega
  have Z:¬ -9223372036854775808<= -(m:Int):=by omega
  cases s<;>simp[f233,D,I,Z]
def P8(m n:Nat)(s s2:Bool):uK (tR m n s s2) (yM m n s s2)=uK m s+uK n s2:=by
 unfold tR yM uK;cases s<;>cases s2<;>by_cases h:n<=m<;>simp[h]<;>omega
def J3(a:Int):uK a.natAbs (decide (a<0))=a:=by unfold uK;by_cases h:a<0<;>simp[h]<;>omega
def Z7(a b:Int)(N:dE a)(y:dE b):ak ctx 198 [.d (.int .i64 a),.d (.int .i64 b)] []=some (.ret (Ln (gj (a+b))),[]):=by
 have M:=p8 a N;have D:=p8 b y;unfold dE at N y;have E:=P7 a.natAbs b.natAbs (decide (a<0)) (decide (b<0)) (by omega);have A':=P8 a.natAbs b.natAbs (decide (a<0)) (decide (b<0));rw[J3,J3]at A';have A1:tR a.natAbs b.natAbs (decide (a<0)) (decide (b<0))<340282366920938463463374607431768211456:=by unfold tR;split<;>(try split)<;>omega
 have H:=xF _ (yM a.natAbs b.natAbs (decide (a<0)) (decide (b<0))) A1;rw[A']at H;rw[ahd (by simp)];generalize gf (tR a.natAbs b.natAbs (decide (a<0)) (decide (b<0))) (yM a.natAbs b.natAbs (decide (a<0)) (decide (b<0)))=z at*;generalize gj (a+b)=p at*;unfold gf at*;simp at E H;simp[f198,M,D,E,H,ai]
def P9(a b:Int)(N:dE a)(y:dE b):ak ctx 197 [.d (.int .i64 a),.d (.int .i64 b)] []=some (.ret (Ln (gj (a-b))),[]):=by
 have M:=p8 a N;have D:=p8 b y;unfold dE at N y;have AO:=UI b.natAbs (decide (b<0));have E:=P7 a.natAbs b.natAbs (decide (a<0)) (!decide (b<0)) (by omega);have A':=P8 a.natAbs b.natAbs (decide (a<0)) (!decide (b<0));have AP:uK b.natAbs (!decide (b<0))= -b:=by unfold uK;by_cases h:b<0<;>simp[h]<;>omega
 rw[J3,AP,<-Int.sub_eq_add_neg]at A';have A1:tR a.natAbs b.natAbs (decide (a<0)) (!decide (b<0))<340282366920938463463374607431768211456:=by unfold tR;split<;>(try split)<;>omega
 have H:=xF _ (yM a.natAbs b.natAbs (decide (a<0)) (!decide (b<0))) A1;rw[A']at H;rw[ahc (by simp)];generalize gf (tR a.natAbs b.natAbs (decide (a<0)) (!decide (b<0))) (yM a.natAbs b.natAbs (decide (a<0)) (!decide (b<0)))=z at*;generalize gf b.natAbs (!decide (b<0))=z2 at*;generalize gj (a-b)=p at*;unfold gf at*;simp at E H;simp[f197,M,D,AO,E,H,ai]
def apG(p:Nat)(s:Bool)(h:p<18446744073709551616):gf p s=.agg [.int .u64 (p%4294967296:Nat),.int .u64 (p/4294967296:Nat),.int .u64 0,.int .u64 0,.bool s]:=by
 unfold gf;obtain⟨J,M,N,O⟩:=Sr h;rw[J,M,N,O];rfl
def aju(p:Nat)(s:Bool)(h:p<18446744073709551616):gf (4294967296*p) s=.agg [.int .u64 0,.int .u64 (p%4294967296:Nat),.int .u64 (p/4294967296:Nat),.int .u64 0,.bool s]:=by
 obtain⟨J,M,N,O⟩:=TV (a:=0) (b:=p%4294967296) (c:=p/4294967296) (d:=0) (by omega) (by omega) (by omega) (by omega) (m:=4294967296*p) (by omega);unfold gf;rw[J,M,N,O];rfl
def apH(p:Nat)(s:Bool)(h:p<18446744073709551616):gf (18446744073709551616*p) s=.agg [.int .u64 0,.int .u64 0,.int .u64 (p%4294967296:Nat),.int .u64 (p/4294967296:Nat),.bool s]:=by
 obtain⟨J,M,N,O⟩:=TV (a:=0) (b:=0) (c:=p%4294967296) (d:=p/4294967296) (by omega) (by omega) (by omega) (by omega) (m:=18446744073709551616*p) (by omega);unfold gf;rw[J,M,N,O];rfl
def apI:gf 0 false=.agg [.int .u64 0,.int .u64 0,.int .u64 0,.int .u64 0,.bool false]:=rfl
def EZ{a b:Nat}(AK:a<4294967296)(AN:b<4294967296):a*b<=18446744065119617025:=Nat.mul_le_mul (by omega:a<=4294967295) (by omega:b<=4294967295)
def XZ(m n:Nat)(s s2:Bool)(hm:m<18446744073709551616)(AO:n<18446744073709551616):ak ctx 237 [.d (gf m s),.d (gf n s2)] []=some (.ret (.d (gf (m*n) (s != s2))),[]):=by
 obtain⟨a0,U,a2,a3⟩:=qn m;obtain⟨b0,V,AP,AQ⟩:=qn n;have Z:m=q0 m+4294967296*q1 m:=by unfold q0 q1;omega
 have y:n=q0 n+4294967296*q1 n:=by unfold q0 q1;omega
 have A':m*n=q0 m*q0 n+4294967296*(q0 m*q1 n)+4294967296*(q1 m*q0 n)+18446744073709551616*(q1 m*q1 n):=by
  have:=Lib.split_mul (q1 m) (q0 m) (q1 n) (q0 n) 4294967296;rw[aiK (q1 m) 4294967296,aiK (q1 n) 4294967296,Nat.add_comm (4294967296*q1 m),Nat.add_comm (4294967296*q1 n),<-Z,<-y]at this;rw[this];omega
 have AR:=EZ a0 b0;have AS:=EZ a0 V;have AT:=EZ U b0;have AU:=EZ U V;have A3:IntKind.u64.wrap ((q0 m:Int)*(q0 n:Int))=((q0 m*q0 n:Nat):Int):=by rw[UH,nB _ (by omega)]
 have A4:IntKind.u64.wrap ((q0 m:Int)*(q1 n:Int))=((q0 m*q1 n:Nat):Int):=by rw[UH,nB _ (by omega)]
 have A5:IntKind.u64.wrap ((q1 m:Int)*(q0 n:Int))=((q1 m*q0 n:Nat):Int):=by rw[UH,nB _ (by omega)]
 have A6:IntKind.u64.wrap ((q1 m:Int)*(q1 n:Int))=((q1 m*q1 n:Nat):Int):=by rw[UH,nB _ (by omega)]
 rw[A'];unfold gf;generalize q0 m*q0 n=D at*;generalize q0 m*q1 n=E at*;generalize q1 m*q0 n=H at*;generalize q1 m*q1 n=I at*;clear A' Z y;have s1:=tu 0 D false false (by omega);have A0:=tu (0+D) (4294967296*E) false false (by omega);have A1:=tu (0+D+4294967296*E) (4294967296*H) false false (by omega);have A2:=tu (0+D+4294967296*E+4294967296*H) (18446744073709551616*I) false false (by omega);rw[apI,apG D _ (by omega)]at s1;rw[aju E _ (by omega)]at A0;rw[aju H _ (by omega)]at A1;rw[apH I _ (by omega)]at A2;have A7:=AL D;have A8:=AL E;have d10:=AL H;have d11:=AL I;have A9:=AM D;have AA:=AM E;have t10:=AM H;have t11:=AM I;have AB:IntKind.u64.wrap ((D/4294967296:Nat):Int)=((D/4294967296:Nat):Int):=nB _ (by omega);have AC:IntKind.u64.wrap ((E/4294967296:Nat):Int)=((E/4294967296:Nat):Int):=nB _ (by omega);have AD:IntKind.u64.wrap ((H/4294967296:Nat):Int)=((H/4294967296:Nat):Int):=nB _ (by omega);have AE:IntKind.u64.wrap ((I/4294967296:Nat):Int)=((I/4294967296:Nat):Int):=nB _ (by omega);generalize AV:0+D=AF at*;generalize AW:AF+4294967296*E=AG at*;generalize AX:AG+4294967296*H=AH at*;generalize AY:AH+18446744073709551616*I=AI at*;have AJ:D+4294967296*E+4294967296*H+18446744073709551616*I=AI:=by omega
 rw[AJ];unfold gf at*;generalize D/4294967296=AZ at*;generalize E/4294967296=A_ at*;generalize H/4294967296=Aa at*;generalize I/4294967296=Ab at*;generalize D%4294967296=Ac at*;generalize E%4294967296=Ad at*;generalize H%4294967296=g10 at*;generalize I%4294967296=g11 at*;rw[ahv (by simp)];simp[f237];rw[ag];simp;rw[ag];simp[A3,A7,A9,AB,s1,ai];rw[ag];simp[A4,A8,AA,AC,A0,ai];rw[ag];simp;rw[ag];simp;rw[ag];simp[A5,d10,t10,AD,A1,ai];rw[ag];simp[A6,d11,t11,AE,A2,ai];rw[ag];simp;rw[ag];simp[ai]
def nh(m i:Nat):Nat:=m/2^i%2
def X0(m i:Nat):nh m i<=1:=by unfold nh;omega
def Z8(m i:Nat):m/2^i=2*(m/2^(i+1))+nh m i:=by
 unfold nh;rw[Nat.pow_succ,<-Nat.div_div_eq_div_mul];omega
def E0(m k r:Nat)(D:r<32):m/2^(32*k)%4294967296/2^r%2=nh m (32*k+r):=by
 unfold nh;rw[Nat.pow_add,<-Nat.div_div_eq_div_mul];generalize m/2^(32*k)=x;have e:(4294967296:Nat)=2^r*2^(32-r):=by rw[<-Nat.pow_add,show r+(32-r)=32 by omega]
 rw[e,Nat.mod_mul_right_div_self];have AL:2^(32-r)=2*2^(31-r):=by rw[<-Nat.pow_succ'];congr 1;omega
 rw[AL,Nat.mod_mul_right_mod]
def amw(m r:Nat)(D:r<32):q0 m/2^r%2=nh m r:=by have:=E0 m 0 r D;simpa [q0]using this
def amx(m r:Nat)(D:r<32):q1 m/2^r%2=nh m (32+r):=by have:=E0 m 1 r D;simpa [q1]using this
def amy(m r:Nat)(D:r<32):q2 m/2^r%2=nh m (64+r):=by have:=E0 m 2 r D;simpa [q2]using this
def amz(m r:Nat)(D:r<32):q3 m/2^r%2=nh m (96+r):=by have:=E0 m 3 r D;simpa [q3]using this
def X1(x:Nat):q0 (2*x+1)=q0 (2*x)+1/\q1 (2*x+1)=q1 (2*x)/\q2 (2*x+1)=q2 (2*x)/\q3 (2*x+1)=q3 (2*x):=by unfold q0 q1 q2 q3;omega
def Ss(m n:Nat)(s s2:Bool)(O:0<n)(A2:n<18446744073709551616)(hm:m<340282366920938463463374607431768211456)(k:Kt)(R:bU)
 (Z:k (.exit 0) ⟨52,aC,[(2,true,.ptr 200 1 0),(3,true,.ptr 250 1 0),(4,true,.ptr 300 1 0),(5,true,.ptr 350 1 0),(6,true,.ptr 400 1 0),(7,true,.ptr 450 1 0),(8,true,.d (.int .i64 (-1))),(10,true,.d (.bool false))],
  [⟨200,1,.box [.d (.int .u64 (q0 m:Nat)),.d (.int .u64 (q1 m:Nat)),.d (.int .u64 (q2 m:Nat)),.d (.int .u64 (q3 m:Nat)),.d (.bool s)]⟩,⟨250,1,.box [.d (.int .u64 (q0 n:Nat)),.d (.int .u64 (q1 n:Nat)),.d (.int .u64 (q2 n:Nat)),.d (.int .u64 (q3 n:Nat)),.d (.bool s2)]⟩,
   ⟨300,1,.box [.d (.int .u64 0),.d (.int .u64 0),.d (.int .u64 0),.d (.int .u64 0),.d (.bool false)]⟩,⟨350,1,.box [.d (.int .u64 0),.d (.int .u64 0),.d (.int .u64 0),.d (.int .u64 0),.d (.bool false)]⟩,
   ⟨400,1,.box [.d (.int .u64 (q0 (m/n):Nat)),.d (.int .u64 (q1 (m/n):Nat)),.d (.int .u64 (q2 (m/n):Nat)),.d (.int .u64 (q3 (m/n):Nat)),.d (.bool false)]⟩,
   ⟨450,1,.box [.d (.int .u64 (q0 (m%n):Nat)),.d (.int .u64 (q1 (m%n):Nat)),.d (.int .u64 (q2 (m%n):Nat)),.d (.int .u64 (q3 (m%n):Nat)),.d (.bool false)]⟩]⟩=R):
 ∀(j:Nat),j<=128->∀(Y Q T:Nat),Y=m/2^j->Q=Y/n->T=Y%n->
 aK ctx 238 (.loop (Code.at (aU f238) [1,1,0,1,0,0])) ⟨52,aC,[(2,true,.ptr 200 1 0),(3,true,.ptr 250 1 0),(4,true,.ptr 300 1 0),(5,true,.ptr 350 1 0),(6,true,.ptr 400 1 0),(7,true,.ptr 450 1 0),(8,true,.d (.int .i64 ((j:Int)-1)))],
  [⟨200,1,.box [.d (.int .u64 (q0 m:Nat)),.d (.int .u64 (q1 m:Nat)),.d (.int .u64 (q2 m:Nat)),.d (.int .u64 (q3 m:Nat)),.d (.bool s)]⟩,⟨250,1,.box [.d (.int .u64 (q0 n:Nat)),.d (.int .u64 (q1 n:Nat)),.d (.int .u64 (q2 n:Nat)),.d (.int .u64 (q3 n:Nat)),.d (.bool s2)]⟩,
   ⟨300,1,.box [.d (.int .u64 0),.d (.int .u64 0),.d (.int .u64 0),.d (.int .u64 0),.d (.bool false)]⟩,⟨350,1,.box [.d (.int .u64 0),.d (.int .u64 0),.d (.int .u64 0),.d (.int .u64 0),.d (.bool false)]⟩,
   ⟨400,1,.box [.d (.int .u64 (q0 Q:Nat)),.d (.int .u64 (q1 Q:Nat)),.d (.int .u64 (q2 Q:Nat)),.d (.int .u64 (q3 Q:Nat)),.d (.bool false)]⟩,
   ⟨450,1,.box [.d (.int .u64 (q0 T:Nat)),.d (.int .u64 (q1 T:Nat)),.d (.int .u64 (q2 T:Nat)),.d (.int .u64 (q3 T:Nat)),.d (.bool false)]⟩]⟩ k=R
 |0,_,Y,Q,T,U,y,A'=>by
  simp at U;subst U;subst y;subst A';rw[ag];simp[f238,Z]
 |i+1,AU,Y,Q,T,U,y,A'=>by
  have ih:=λAM AN=>Ss m n s s2 O A2 hm k R Z i (by omega) (2*Y+nh m i) AM AN (by rw[U];exact (Z8 m i).symm);obtain⟨AO,AP⟩:=half (Y:=Y) O (X0 m i);have AV:T<n:=by rw[A'];exact Nat.mod_lt _ O
  have AW:Y<340282366920938463463374607431768211456/2:=by
   rw[U,Nat.pow_succ,<-Nat.div_div_eq_div_mul];have:=ajn m (2^i);omega
  have AX:Q<=Y:=by rw[y];exact ajn _ _
  have ih:=ih _ _ AO.symm AP.symm;rw[<-y,<-A']at ih;have A3:=tu T T false false (by omega);have A4:=tu Q Q false false (by omega);rw[show T+T=2*T by omega]at A3;rw[show Q+Q=2*Q by omega]at A4;have A5:=X0 m i;have E:=Sq (2*T+nh m i) n false s2 (by omega) (by omega);have H:=λh=>G2 (2*T+nh m i) n false s2 (by omega) h;have lT:=(qn (2*T)).1;have AY:=(qn (2*Q)).1;have A0:IntKind.u64.wrap ((q0 (2*T):Int)+1)=((q0 (2*T)+1:Nat):Int):=by rw[show (q0 (2*T):Int)+1=((q0 (2*T)+1:Nat):Int) by omega,nB _ (by omega)]
  have A1:IntKind.u64.wrap ((q0 (2*Q):Int)+1)=((q0 (2*Q)+1:Nat):Int):=by rw[show (q0 (2*Q):Int)+1=((q0 (2*Q)+1:Nat):Int) by omega,nB _ (by omega)]
  obtain⟨t0,t1,t2,t3⟩:=X1 T;obtain⟨A8,A9,AA,AB⟩:=X1 Q;obtain⟨c,r,hi,D⟩:∃c r,i=32*c+r/\r<32:=⟨i/32,i%32,by omega,by omega⟩;have A6:c=0\/c=1\/c=2\/c=3:=by omega
  have M:(if c=0 then q0 m else if c=1 then q1 m else if c=2 then q2 m else q3 m)/2^r%2=nh m i:=by
   rcases A6 with rfl|rfl|rfl|rfl
   .simpa [hi]using amw m r D
   .simpa [hi]using amx m r D
   .simpa [hi]using amy m r D
   .simpa [hi]using amz m r D
  have N:(i:Int).tdiv 32=(c:Int):=by rw[Int.tdiv_eq_ediv_of_nonneg (by omega)];omega
  have AC:(i:Int).tmod 32=(r:Int):=by rw[Int.tmod_eq_emod_of_nonneg (by omega)];omega
  have AD:=bu (i:Int);have wr:=bu (r:Int);have AE:=bu ((i:Int)-1);have g0:(0:Int)<=(i:Int):=by omega
  have AF:IntKind.u64.wrap (r:Int)=r:=nB _ (by omega);have AG:min r IntKind.u64.bits=r:=afV (by show r<=64;omega);have fd:∀d:Nat,((d:Int).fdiv (2^r)).tmod 2=((d/2^r%2:Nat):Int):=λd=>by
   rw[Int.fdiv_eq_ediv_of_nonneg _ (by exact Int.le_of_lt (Int.pow_pos (by decide))),Int.tmod_eq_emod_of_nonneg (Int.ediv_nonneg (by omega) (Int.le_of_lt (Int.pow_pos (by decide))))];simp
  have d0:=fd (q0 m);have d1:=fd (q1 m);have d2:=fd (q2 m);have d3:=fd (q3 m);clear fd;unfold gf at*;have I:∀x,n<=x->0<=zB x n:=λx h=>by unfold zB;rw[aaf (by omega)];split<;>omega
  have J:∀x,¬n<=x->¬0<=zB x n:=λx h=>by unfold zB;rw[aav (by omega)];omega
  have I:=I (2*T+nh m i);have J:=J (2*T+nh m i);simp[f238]at ih⊢;have AH:nh m i=0\/nh m i=1:=by omega
  by_cases hle:n<=2*T+nh m i
  .have H:=H hle;have I:=I hle;rw[aav hle]at ih;rw[aav hle]at ih;rcases AH with V|V<;>rw[V]at M H E I ih<;>rcases A6 with rfl|rfl|rfl|rfl<;>
   (simp only[ad1,abc,Nat.reduceEqDiff,Nat.succ_ne_self,Nat.one_ne_zero]at M
    simp only[M]at d0 d1 d2 d3;try simp only[t0,t1,t2,t3]at E H
    try simp only[A8,A9,AA,AB,aeG,Nat.sub_zero]at ih E H I
    try simp only[t0,t1,t2,t3]at ih
    try simp only[Int.natCast_add,Int.cast_ofNat_Int]at A0 A1 E H ih
    have N:(i:Int).tdiv 32=_:=N;rw[ag];simp[g0,A3,A4,N,AC,AD,wr,AF,AG,wh,d0,d1,d2,d3,A0,A1,E,I,H,AE,ai,ih])
  .have J:=J hle;rw[aaf hle]at ih;rw[aaf hle]at ih;rcases AH with V|V<;>rw[V]at M E J ih<;>rcases A6 with rfl|rfl|rfl|rfl<;>
   (simp only[ad1,abc,Nat.reduceEqDiff,Nat.succ_ne_self,Nat.one_ne_zero]at M
    simp only[M]at d0 d1 d2 d3;try simp only[t0,t1,t2,t3]at E
    try simp only[A8,A9,AA,AB,aeG,Nat.sub_zero]at ih E J
    try simp only[t0,t1,t2,t3]at ih
    try simp only[Int.natCast_add,Int.cast_ofNat_Int]at A0 A1 E ih
    have N:(i:Int).tdiv 32=_:=N;rw[ag];simp[g0,A3,A4,N,AC,AD,wr,AF,AG,wh,d0,d1,d2,d3,A0,A1,E,J,AE,ai,ih])
def X7(m n:Nat)(s s2:Bool)(O:0<n)(A2:n<18446744073709551616)(hm:m<340282366920938463463374607431768211456):
 ak ctx 238 [.d (gf m s),.d (gf n s2)] []=some (.ret (.bh [.d (gf (m/n) false),.d (gf (m%n) false)]),[]):=by
 have AI:=λk R Z=>Ss m n s s2 O A2 hm k R Z 128 (by omega) 0 0 0 (by rw[Nat.div_eq_of_lt];exact hm) (by simp) (by simp);rw[ahw (by simp)];unfold gf;simp[f238,show q0 0=0 from rfl,show q1 0=0 from rfl,show q2 0=0 from rfl,show q3 0=0 from rfl]at AI;simp[f238];rw[AI];simp[ai]
def Z9(a b:Int)(AJ:dE a)(A5:dE b):ak ctx 199 [.d (.int .i64 a),.d (.int .i64 b)] []=some (.ret (Ln (gj (a*b))),[]):=by
 have AQ:=p8 a AJ;have AR:=p8 b A5;unfold dE at AJ A5;have AK:=XZ a.natAbs b.natAbs (decide (a<0)) (decide (b<0)) (by omega) (by omega);have AS:a.natAbs*b.natAbs<340282366920938463463374607431768211456:=by
  have:a.natAbs*b.natAbs<=9223372036854775808*9223372036854775808:=Nat.mul_le_mul (by omega) (by omega);omega
 have A7:=xF _ (decide (a<0) != decide (b<0)) AS;have AT:uK (a.natAbs*b.natAbs) (decide (a<0) != decide (b<0))=a*b:=by
  rw[Ri];unfold uK;by_cases h:decide (a<0)=decide (b<0)<;>simp[h]
 rw[AT]at A7;rw[ahe (by simp)];generalize gf (a.natAbs*b.natAbs) (decide (a<0) != decide (b<0))=z at*;generalize gj (a*b)=p at*;unfold gf at*;simp at AK A7;simp[f199,AQ,AR,AK,A7,ai]
def aaa(a b:Int)(J:dE a)(M:dE b):ak ctx 200 [.d (.int .i64 a),.d (.int .i64 b)] []=some (.ret (UB (sV a b)),[]):=by
 rw[ahf (by simp)];by_cases E:b=0
 .simp[f200,E,sV]
 .have U:=p8 a J;have V:=p8 b M;unfold dE at J M;have H:=X7 a.natAbs b.natAbs (decide (a<0)) (decide (b<0)) (by omega) (by omega) (by omega);have A4:a.natAbs/b.natAbs<=a.natAbs:=ajn _ _;have D:=xF (a.natAbs/b.natAbs) (decide (a<0) != decide (b<0)) (by omega);have N:uK (a.natAbs/b.natAbs) (decide (a<0) != decide (b<0))=a.tdiv b:=by
   rw[Bt];unfold uK;by_cases h:decide (a<0)=decide (b<0)<;>simp[h]
  rw[N]at D;have I:sV a b=if (gj (a.tdiv b)).2=true then ((gj (a.tdiv b)).1,0)else (0,2):=by
   unfold sV gj;rw[aaf E];by_cases Z:a= -9223372036854775808/\b= -1
   .obtain⟨rfl,rfl⟩:=Z;rfl
   .rw[aaf Z];have O:dE (a.tdiv b):=by
     have A':=Bt a b;unfold dE;have A0:decide (a<0)=decide (b<0)->a.natAbs/b.natAbs<=9223372036854775807:=by
      intro I;by_cases A1:a= -9223372036854775808
      .have A2:2<=b.natAbs:=by
        have:b<0:=by rw[A1]at I;simpa using I
        omega
       have H:=Nat.div_le_div_left A2 (by decide) (a:=a.natAbs);omega
      .omega
     generalize a.natAbs/b.natAbs=q at*;split at A'
     .rename_i I;have:=A0 I;omega
     .omega
    unfold dE at O;rw[aav O];simp
  rw[I];generalize gj (a.tdiv b)=p at*;generalize a.natAbs/b.natAbs=x at*;generalize a.natAbs%b.natAbs=y at*;unfold gf at*;try simp at H
  try simp at D
  cases A3:p.2<;>simp[f200,E,U,V,H,D,A3,ai]
def aab(a b:Int)(J:dE a)(M:dE b):ak ctx 201 [.d (.int .i64 a),.d (.int .i64 b)] []=some (.ret (UB (zu a b)),[]):=by
 rw[ahg (by simp)];unfold zu;by_cases E:b=0
 .simp[f201,E]
 .rw[aaf E];have U:=p8 a J;have V:=p8 b M;unfold dE at J M;have H:=X7 a.natAbs b.natAbs (decide (a<0)) (decide (b<0)) (by omega) (by omega) (by omega);have A5:a.natAbs%b.natAbs<b.natAbs:=Nat.mod_lt _ (by omega);have A6:a.natAbs%b.natAbs<=a.natAbs:=Nat.mod_le _ _;have D:=xF (a.natAbs%b.natAbs) (decide (a<0)) (by omega);have N:uK (a.natAbs%b.natAbs) (decide (a<0))=a.tmod b:=by
   rw[Y2];unfold uK;by_cases h:a<0<;>simp[h]
  have O: -9223372036854775808<=a.tmod b/\a.tmod b<=9223372036854775807:=by
   rw[<-N];unfold uK;generalize a.natAbs%b.natAbs=x at*;split<;>omega
  rw[N]at D;unfold gj at D;rw[aav O]at D;generalize a.tmod b=p at*;generalize a.natAbs%b.natAbs=x at*;generalize a.natAbs/b.natAbs=y at*;unfold gf at*;try simp at H
  try simp at D
  simp[f201,E,U,V,H,D,ai]
def j8(b:Bool):ak ctx 196 [.d (.bool b)] []=some (.ret (.d (.int .i64 (ei b))),[]):=by
 rw[ahb (by simp)];cases b<;>simp[f196,ei]
def UJ(op a:Int)(t:Bool)(H:dE a):ak ctx 138 [.d (.int .i64 op),.d (.list [.int .i64 a]),.d (.bool t)] []=some (.ret (KU (mC op a t)),[]):=by
 rw[WY (by simp)];have A0:=P9 0 a (by unfold dE;omega) H;unfold mC;generalize gj (0-a)=p at*;try simp at A0
 cases t
 .simp[f138];rw[ag];simp;rw[ag];by_cases J:op=6
  .cases A2:p.2<;>simp[J,A0,A2,oA]
  .simp[J,gC]
 .by_cases I:a<0
  .have D:¬a=0:=by omega
   have E:¬a=1:=by omega
   simp[f138];rw[ag];simp[I,D,E,gC]
  .by_cases U:1<a
   .have D:¬a=0:=by omega
    have E:¬a=1:=by omega
    simp[f138];rw[ag];simp[I,U,D,E,gC]
   .have M:a=0\/a=1:=by omega
    rcases M with rfl|rfl<;>
     (simp[f138]
      rw[ag];simp;rw[ag];by_cases A1:op=7
      .simp[A1,j8]
      .simp[A1,gC])
def UK(op a b:Int)(t:Bool)(H:dE a)(N:dE b):ak ctx 138 [.d (.int .i64 op),.d (.list [.int .i64 a,.int .i64 b]),.d (.bool t)] []=some (.ret (KU (nZ op a b t)),[]):=by
 rw[WY (by simp)];have q1:=Z7 a b H N;have q2:=P9 a b H N;have q3:=Z9 a b H N;have V:=aaa a b H N;have Z:=aab a b H N;unfold nZ;cases t
 .unfold DE;generalize gj (a+b)=f1 at*;generalize gj (a-b)=f2 at*;generalize gj (a*b)=f3 at*;generalize sV a b=f4 at*;generalize zu a b=f5 at*;simp at q1 q2 q3 V Z;simp[f138];rw[ag];simp;rw[ag];simp;rw[ag];have y:op=8\/op=9\/op=10\/op=11\/op=12\/op=13\/op=14\/op=15\/op=16\/op=17\/op=18\/(op<8)\/(18<op/\op<=21)\/21<op:=by omega
  rcases y with rfl|rfl|rfl|rfl|rfl|rfl|rfl|rfl|rfl|rfl|rfl|h|⟨I,U⟩|h
  .cases O:f1.2<;>simp[q1,O,oA,ai]
  .cases O:f2.2<;>simp[q2,O,oA,ai]
  .cases O:f3.2<;>simp[q3,O,oA,ai]
  .by_cases D:f4.2=3
   .simp[V,D,m9,ai]
   .by_cases A':f4.2=0<;>simp[V,A',D,m9,ai]
  .by_cases D:f5.2=3
   .simp[Z,D,m9,ai]
   .by_cases A':f5.2=0<;>simp[Z,A',D,m9,ai]
  .simp[j8,ai]
  .simp[j8,ai,bne]
  .simp[j8,ai]
  .simp[j8,ai]
  .simp[j8,ai]
  .simp[j8,ai,show IntKind.i64.wrap 5=5 from rfl]
  .simp only[show ¬op=8 by omega,show ¬op=9 by omega,show ¬op=10 by omega,show ¬op=11 by omega,show ¬op=12 by omega,show ¬op=13 by omega,show ¬op=14 by omega,show ¬op=15 by omega,show ¬op=16 by omega,show ¬op=17 by omega,show ¬op=18 by omega,abc];simp[h,gC,ai]
  .have D:¬op<8:=by omega
   have E:¬21<op:=by omega
   simp only[show ¬op=8 by omega,show ¬op=9 by omega,show ¬op=10 by omega,show ¬op=11 by omega,show ¬op=12 by omega,show ¬op=13 by omega,show ¬op=14 by omega,show ¬op=15 by omega,show ¬op=16 by omega,show ¬op=17 by omega,show ¬op=18 by omega,abc];simp[I,D,E,gC,ai]
  .have D:¬op<8:=by omega
   simp only[show ¬op=8 by omega,show ¬op=9 by omega,show ¬op=10 by omega,show ¬op=11 by omega,show ¬op=12 by omega,show ¬op=13 by omega,show ¬op=14 by omega,show ¬op=15 by omega,show ¬op=16 by omega,show ¬op=17 by omega,show ¬op=18 by omega,abc];simp[h,D,gC,ai]
 .clear q1 q2 q3 V Z;by_cases I:a=0\/a=1
  .by_cases U:b=0\/b=1
   .have y:op=13\/op=14\/op=20\/op=19\/op=21\/(op<8)\/(8<=op/\op<13)\/(14<op/\op<19)\/21<op:=by omega
    unfold Gu;rcases I with rfl|rfl<;>rcases U with rfl|rfl<;>
     (simp[f138]
      rw[ag];simp;rw[ag];simp;rw[ag];rcases y with rfl|rfl|rfl|rfl|rfl|h|⟨D,E⟩|⟨D,E⟩|h
      .simp[j8,ai]
      .simp[j8,ai]
      .simp[j8,ai]
      .simp[j8,ai]
      .simp[j8,ai]
      .simp only[show ¬op=13 by omega,show ¬op=14 by omega,show ¬op=20 by omega,show ¬op=19 by omega,show ¬op=21 by omega,abc,or_self];simp[h,gC,ai]
      .simp only[show ¬op=13 by omega,show ¬op=14 by omega,show ¬op=20 by omega,show ¬op=19 by omega,show ¬op=21 by omega,abc,or_self];simp[show ¬op<8 by omega,show ¬21<op by omega,show ¬op=13 by omega,show ¬op=14 by omega,show ¬op=20 by omega,show ¬op=19 by omega,show ¬op=21 by omega,gC,ai]
      .simp only[show ¬op=13 by omega,show ¬op=14 by omega,show ¬op=20 by omega,show ¬op=19 by omega,show ¬op=21 by omega,abc,or_self];simp[show ¬op<8 by omega,show ¬21<op by omega,show ¬op=13 by omega,show ¬op=14 by omega,show ¬op=20 by omega,show ¬op=19 by omega,show ¬op=21 by omega,gC,ai]
      .simp only[show ¬op=13 by omega,show ¬op=14 by omega,show ¬op=20 by omega,show ¬op=19 by omega,show ¬op=21 by omega,abc,or_self];simp[show ¬op<8 by omega,h,gC,ai])
   .have D:¬b=0:=by omega
    have E:¬b=1:=by omega
    have M:¬b<0->1<b:=by omega
    rcases I with rfl|rfl<;>by_cases J:b<0<;>
     (simp[f138]
      rw[ag];simp;rw[ag];simp[D,E,M,J,gC])
  .have D:¬a=0:=by omega
   have E:¬a=1:=by omega
   have M:¬a<0->1<a:=by omega
   by_cases J:a<0<;>
   (simp[f138]
    rw[ag];simp[D,E,M,J,gC])
def xG:Option (Int×Bool)->Int×Int
 |none=>(0,0)
 |some (n,false)=>(n,1)
 |some (n,true)=>(n,2)
def G3(x:Ex)(V:bO x=6->∃y,da x=[y]):ak ctx 137 [.d (bJ x)] []=some (.ret (.bh [.d (.int .i64 (xG (en x)).1),.d (.int .i64 (xG (en x)).2)]),[]):=by
 rw[agK (by simp)];unfold en;by_cases J:bO x=1
 .simp[f137,aw,J,xG,ai]
 .by_cases M:bO x=2
  .simp[f137,aw,M,xG,ai]
  .by_cases h:bO x=6
   .obtain⟨y,E⟩:=V h;by_cases N:bO y=1
    .simp[f137,aw,h,E,N,xG,DO,ai]
    .simp[f137,aw,h,E,N,xG,ai]
   .simp[f137,aw,J,M,h,xG,ai]
def uL(y:Ex):Prop:=ak ctx 82 [.d (bJ y)] []=some (.ret (.d (bJ (cC y))),[])
@[simp] def ajv:aE:=.box [.d (.int .i64 0),.d (.int .i64 0),.d (.str []),.d (.str []),.lit (.slice none 0 0),.d (.int .i64 0)]
@[simp] def bxX(op n:Int)(name field:Tx)(l:List Ex)(line:Int):aE:=.box [.d (.int .i64 op),.d (.int .i64 n),.d (.str name),.d (.str field),.d (.list (l.map bJ)),.d (.int .i64 line)]
def FT{op n line:Int}{name field:Tx}(l:List Ex)(Z:l.length<100000000)(k:Kt)(Q:List Ex->bU->Prop)
 (O:∀(Y:Env)(out:List Ex) v,Q out (k (.exit 0) ⟨128,aC,(1,true,.ptr 150 1 0)::(2,true,.ptr 200 1 0)::(3,true,.ptr 250 1 0)::Y,[⟨150,1,bxX op n name field l line⟩,⟨200,1,ajv⟩,⟨250,1,bxX op n name field out line⟩,⟨251,v,.dead⟩,⟨350,0,.dead⟩,⟨400,0,.dead⟩]⟩)):
 ∀(rest pre out:List Ex)(v:Nat),l=pre++rest->out.length=pre.length->(∀y∈rest,uL y)->
 Q (out++cx rest) (aK ctx 82 (.loop (Code.at (aU f82) [1,1,1,0,1,0,0])) ⟨128,aC,[(1,true,.ptr 150 1 0),(2,true,.ptr 200 1 0),(3,true,.ptr 250 1 0),(4,true,.d (.int .i64 pre.length))],[⟨150,1,bxX op n name field l line⟩,⟨200,1,ajv⟩,⟨250,1,.box [.d (.int .i64 op),.d (.int .i64 n),.d (.str name),.d (.str field),.vec 251 v 0 out.length,.d (.int .i64 line)]⟩,⟨251,v,.vec 6 (out.map bJ)⟩,⟨350,0,.dead⟩,⟨400,0,.dead⟩]⟩ k)
 |[],pre,out,v,D,U,H=>by
  have A':pre.length=l.length:=by rw[D];simp
  have:=O [(4,true,.d (.int .i64 l.length)),(19,true,.d (.bool false))] out (v+1);simp[cx]at this⊢;rw[A',ag];simp[f82,this]
 |x::rest,pre,out,v,D,U,H=>by
  have A0:pre.length<l.length:=by rw[D];simp
  have A1:l[pre.length]=x:=by simp[D]
  have I:=H x (by simp);unfold uL at I;have ih:=λv=>FT l Z k Q O rest (pre++[x]) (out++[cC x]) v (by simp[D]) (by simp[U]) (λy E=>H y (by simp[E]));have A2:=bu ((pre.length:Int)+1);have A3:out.length<=4611686018427387903:=by omega
  have A4:(out.length+1)*80<=140737488355328:=by omega
  have e:out++cx (x::rest)=out++[cC x]++cx rest:=by simp[cx]
  rw[e,ag];generalize cC x=A5 at*;simp[aw]at I;simp[f82,aw]at ih⊢;simp[A0,A1,aw,I,A2,A3,A4,ih,ai]
def G4(b:Bool):ei b≠ -9223372036854775808:=by cases b<;>decide
def ajx{op a:Int}{t:Bool}(h:(mC op a t).2.1=true):(mC op a t).1≠ -9223372036854775808:=by
 have E:=G4 (decide (a=0));unfold mC gC oA at*;grind
def ajy{op a b:Int}{t:Bool}(h:(nZ op a b t).2.1=true):(nZ op a b t).1≠ -9223372036854775808:=by
 unfold nZ at*;split at h
 .rename_i J;rw[aav J];split at h
  .simp[gC]at h
  .rename_i N;rw[aaf N];unfold Gu at*;repeat' split at h
   all_goals first|(simp[gC]at h;done)|simp_all [G4]
 .rename_i J;rw[aaf J];unfold DE at*;repeat' split at h
  all_goals first|(simp[gC,oA,m9]at h;done)|simp_all [G4]|skip
  all_goals (first|(unfold oA at*;split at h<;>simp_all)|(unfold m9 at*;(repeat' split at h)<;>simp_all))
def LC{R:D}{self:D}{q1:Int}{q2:Bool}{q3 line:Int}(J:q2=true->q1≠ -9223372036854775808)
 (H:R=if q3≠0\/(q2=false/\q1= -9223372036854775808)then self else bJ (jX q1 q2 line)):
 (q3≠0/\R=self)\/(q3=0/\q1= -9223372036854775808/\R=self)\/(q3=0/\q1≠ -9223372036854775808/\q2=true/\R=bJ (.mk 2 q1 [] [] [] line))\/
 (q3=0/\q1≠ -9223372036854775808/\q2=false/\q1<0/\R=bJ (.mk 6 0 [] [] [.mk 1 (DO q1) [] [] [] line] line))\/(q3=0/\q1≠ -9223372036854775808/\q2=false/\¬q1<0/\R=bJ (.mk 1 q1 [] [] [] line)):=by
 by_cases I:q3=0
 .by_cases E:q1= -9223372036854775808
  .cases q2 with
   |true=>exact absurd E (J rfl)
   |false=>rw[aav (.inr ⟨rfl,E⟩)]at H;exact .inr (.inl ⟨I,E,H⟩)
  .rw[aaf (by simp[I,E])]at H;cases q2 with
   |true=>exact .inr (.inr (.inl ⟨I,E,rfl,by simpa [jX]using H⟩))
   |false=>
    by_cases M:q1<0
    .exact .inr (.inr (.inr (.inl ⟨I,E,rfl,M,by rw[H];simp[jX,show ¬0<=q1 by omega]⟩)))
    .exact .inr (.inr (.inr (.inr ⟨I,E,rfl,M,by rw[H];simp[jX,show 0<=q1 by omega]⟩)))
 .rw[aav (.inl I)]at H;exact .inl ⟨I,H⟩
def abr{op n line:Int}{name field:Tx}{sub:List Ex}(AL:sub.length<100000000)(AF:6<=op->sub.length=1\/sub.length=2)(AG:op=6->sub.length=1)(AH:∀y∈sub,uL y)(AI:∀y∈sub,bO (cC y)=6->∃z,da (cC y)=[z])
 (AJ:∀y∈sub,∀c,en (cC y)=some c->dE c.1):uL (.mk op n name field sub line):=by
 have AB:=λk Q AM v=>FT (op:=op) (n:=n) (line:=line) (name:=name) (field:=field) sub AL k Q AM sub [] [] v rfl rfl AH;unfold uL;have e:cC (.mk op n name field sub line)=im (.mk op n name field (cx sub) line):=by simp[cC]
 rw[e];have A2:∀y∈cx sub,∀c,en y=some c->dE c.1:=by
  rw[j6];intro y D;obtain⟨z,E,rfl⟩:=aaD.1 D;exact AJ z E
 have A3:∀y∈cx sub,bO y=6->∃z,da y=[z]:=by
  rw[j6];intro y D;obtain⟨z,E,rfl⟩:=aaD.1 D;exact AI z E
 have A8:6<=op->(cx sub).length=1\/(cx sub).length=2:=by rw[j6];simpa using AF
 have A9:op=6->(cx sub).length=1:=by rw[j6];simpa using AG
 obtain⟨R,J⟩:∃R,R=bJ (im (.mk op n name field (cx sub) line)):=⟨_,rfl⟩;rw[<-J,alG (by simp)];simp[f82,aw]at AB⊢;refine AB _ (λout r=>out=cx sub->r=some (.ret (.d R),[])) (λY out v h=>?_) _ rfl;subst h;generalize cx sub=out at*;clear AB AH AJ AI AF AG e;by_cases V:op<=5
 .have U:im (.mk op n name field out line)=.mk op n name field out line:=by simp[im,show op<6 by omega]
  rw[U]at J;subst J;simp[V,aw]
 have AK:¬op<6:=by omega
 have v0:IntKind.i64.wrap 0=0:=rfl;have v1:IntKind.i64.wrap 1=1:=rfl;have v2:IntKind.i64.wrap 2=2:=rfl;rcases A8 (by omega)with A4|A5
 .obtain⟨y,rfl⟩:=DQ A4;have D:=G3 y (A3 y (by simp));simp[aw]at D;by_cases A0:op=6/\bO y=1
  .have U:im (.mk op n name field [y] line)=.mk op n name field [y] line:=by simp[im,en,A0.1,A0.2]
   rw[U]at J;subst J;simp[A0.1,A0.2,aw]
  have A6:en (.mk op n name field [y] line)=none:=by
   unfold en;rw[aaf (by simp;omega),aaf (by simp;omega)];by_cases H:op=6
   .have:¬bO y=1:=λh=>A0 ⟨H,h⟩;simp[H,this]
   .simp[H]
  have AP:∀q,R=q->(q=R):=λq h=>h.symm;cases I:en y with
  |none=>
   have U:im (.mk op n name field [y] line)=.mk op n name field [y] line:=by simp[im,kP,I]
   rw[U]at J;subst J;rw[I]at D;simp[xG]at D;by_cases H:op=6
   .have AC:¬bO y=1:=λh=>A0 ⟨H,h⟩;simp[H,AC,aw];rw[ag];simp[f82,aw,D,v0,v1];rw[ag];simp[f82,aw,v0,v1]
   .simp[V,H,aw];rw[ag];simp[f82,aw,D,v0,v1];rw[ag];simp[f82,aw,v0,v1]
  |some c=>
   obtain⟨a,t⟩:=c;have AD:dE a:=A2 y (by simp) _ I;have M:=UJ op a t AD;have U:im (.mk op n name field [y] line)=if (mC op a t).2.2≠0\/((mC op a t).2.1=false/\(mC op a t).1= -9223372036854775808)then .mk op n name field [y] line else jX (mC op a t).1 (mC op a t).2.1 line:=by
    simp[im,kP,I,A6,Fy,AK]
   have A1:=ajx (op:=op) (a:=a) (t:=t);rw[U]at J;rw[I]at D;generalize mC op a t=q at*;obtain⟨q1,q2,q3⟩:=q;simp only at J M A1;have AA:=LC (R:=R) (self:=bJ (.mk op n name field [y] line)) (q3:=q3) (line:=line) A1 (by rw[J];split<;>rfl);clear J A2 A8 A3 A9 U A6 A1;by_cases H:op=6
   .have AC:¬bO y=1:=λh=>A0 ⟨H,h⟩;rcases AA with ⟨Z,rfl⟩|⟨rfl,Z,rfl⟩|⟨rfl,N,rfl,rfl⟩|⟨rfl,N,rfl,A',rfl⟩|⟨rfl,N,rfl,A',rfl⟩<;>cases t<;>
    .simp[xG]at D;simp[H]at M;simp[H,AC,aw];rw[ag];simp[f82,aw,D,v0,v1];rw[ag];first
      |(simp[f82,aw,v0,v1,M,N,A',DO];done)
      |(simp[f82,aw,v0,v1,M,Z];done)
      |(simp[f82,aw,v0,v1,M,N];done)
   .rcases AA with ⟨Z,rfl⟩|⟨rfl,Z,rfl⟩|⟨rfl,N,rfl,rfl⟩|⟨rfl,N,rfl,A',rfl⟩|⟨rfl,N,rfl,A',rfl⟩<;>cases t<;>
    .simp[xG]at D;simp at M;simp[V,H,aw];rw[ag];simp[f82,aw,D,v0,v1];rw[ag];first
      |(simp[f82,aw,v0,v1,M,N,A',DO];done)
      |(simp[f82,aw,v0,v1,M,Z];done)
      |(simp[f82,aw,v0,v1,M,N];done)
 .obtain⟨y,z,rfl⟩:=aiI A5;have H:¬op=6:=λh=>by have:=A9 h;simp at this
  have D:=G3 y (A3 y (by simp));have E:=G3 z (A3 z (by simp));simp[aw]at D E;have A6:en (.mk op n name field [y,z] line)=none:=by
   unfold en;rw[aaf (by simp;omega),aaf (by simp;omega)];simp[H]
  have step:∀R,R=bJ (.mk op n name field [y,z] line)->(en y=none\/en z=none\/∃a b s t,en y=some (a,s)/\en z=some (b,t)/\s≠t)->im (.mk op n name field [y,z] line)=.mk op n name field [y,z] line:=by
   intro R _ h;rcases h with h|h|⟨a,b,s,t,A4,A5,AE⟩
   .simp[im,kP,h]
   .cases I:en y<;>simp[im,kP,h,I]
   .simp[im,kP,A4,A5,Fy,AE]
  by_cases A7:en y=none\/en z=none\/∃a b s t,en y=some (a,s)/\en z=some (b,t)/\s≠t
  .rw[step _ rfl A7]at J;subst J;clear step A2 A8 A3 A9 A6;cases I:en y with
   |none=>
    rw[I]at D;cases O:en z with
    |none=>
     rw[O]at E;simp[xG]at D E;simp[V,H,aw];rw[ag];simp[f82,aw,D,v0,v1];rw[ag];simp[f82,aw,E,v0,v1,v2];rw[ag];simp[f82,aw,v0,v1,v2]
    |some c=>
     obtain⟨b,t⟩:=c;rw[O]at E;cases t<;>
     .simp[xG]at D E;simp[V,H,aw];rw[ag];simp[f82,aw,D,v0,v1];rw[ag];simp[f82,aw,E,v0,v1,v2];rw[ag];simp[f82,aw,v0,v1,v2]
   |some c=>
    obtain⟨a,s⟩:=c;rw[I]at D;cases O:en z with
    |none=>
     rw[O]at E;cases s<;>
     .simp[xG]at D E;simp[V,H,aw];rw[ag];simp[f82,aw,D,v0,v1];rw[ag];simp[f82,aw,E,v0,v1,v2];rw[ag];simp[f82,aw,v0,v1,v2]
    |some c=>
     obtain⟨b,t⟩:=c;rw[O]at E;have AN:s≠t:=by
      rcases A7 with h|h|⟨AQ,AR,AS,AT,A4,A5,AE⟩
      .rw[I]at h;cases h
      .rw[O]at h;cases h
      .rw[I]at A4;rw[O]at A5;cases A4;cases A5;exact AE
     cases s<;>cases t<;>first
      |exact absurd rfl AN
      |(simp[xG]at D E;simp[V,H,aw];rw[ag];simp[f82,aw,D,v0,v1];rw[ag];simp[f82,aw,E,v0,v1,v2];rw[ag];simp[f82,aw,v0,v1,v2])
  .obtain⟨a,b,t,I,O⟩:∃a b t,en y=some (a,t)/\en z=some (b,t):=by
    cases I:en y with
    |none=>exact absurd (.inl I) A7
    |some c=>
     cases O:en z with
     |none=>exact absurd (.inr (.inl O)) A7
     |some d=>
      obtain⟨a,s⟩:=c;obtain⟨b,t⟩:=d;by_cases h:s=t
      .subst h;exact⟨a,b,s,rfl,rfl⟩
      .exact absurd (.inr (.inr ⟨a,b,s,t,I,O,h⟩)) A7
   have AD:dE a:=A2 y (by simp) _ I;have AO:dE b:=A2 z (by simp) _ O;have M:=UK op a b t AD AO;have U:im (.mk op n name field [y,z] line)=if (nZ op a b t).2.2≠0\/((nZ op a b t).2.1=false/\(nZ op a b t).1= -9223372036854775808)then .mk op n name field [y,z] line else jX (nZ op a b t).1 (nZ op a b t).2.1 line:=by
    simp[im,kP,I,O,A6,Fy,AK]
   have A1:=ajy (op:=op) (a:=a) (b:=b) (t:=t);rw[U]at J;rw[I]at D;rw[O]at E;generalize nZ op a b t=q at*;obtain⟨q1,q2,q3⟩:=q;simp only at J M A1;have AA:=LC (R:=R) (self:=bJ (.mk op n name field [y,z] line)) (q3:=q3) (line:=line) A1 (by rw[J];split<;>rfl);clear J A2 A8 A3 A9 U A6 A1 step A7;rcases AA with ⟨Z,rfl⟩|⟨rfl,Z,rfl⟩|⟨rfl,N,rfl,rfl⟩|⟨rfl,N,rfl,A',rfl⟩|⟨rfl,N,rfl,A',rfl⟩<;>cases t<;>
   .simp[xG]at D E;simp at M;simp[V,H,aw];rw[ag];simp[f82,aw,D,v0,v1];rw[ag];simp[f82,aw,E,v0,v1,v2];rw[ag];first
     |(simp[f82,aw,v0,v1,v2,M,N,A',DO];done)
     |(simp[f82,aw,v0,v1,v2,M,Z];done)
     |(simp[f82,aw,v0,v1,v2,M,N];done)
def Jh(b:List Sm):Prop:=ak ctx 45 [.d (.list (b.map bZ))] []=some (.ret (.d (.list ((cy b).map bZ))),[])
structure X8(x:Sm):Prop where
 to:uL (dJ x)
 val:uL (dq x)
 apJ:(bS x).length<100000000
 conds:∀y∈bS x,uL y
 apK:(aV x).length<100000000
 blocks:∀b∈aV x,Jh b
@[simp] def UM(x:Sm)(t v:Ex)(Oo dU:AV):aE:=.box [.d (.int .i64 (bM x)),.d (.str (eG x)),.d (.int .i64 (bO t)),.d (.int .i64 (il t)),.d (.str (dI t)),.d (.str (fQ t)),.d (.list ((da t).map bJ)),.d (.int .i64 (jH t)),.d (.int .i64 (bO v)),.d (.int .i64 (il v)),.d (.str (dI v)),.d (.str (fQ v)),.d (.list ((da v).map bJ)),.d (.int .i64 (jH v)),Oo,.d (.list ((dn x).map mQ)),.d (.list ((dy x).map .str)),dU,.d (.int .i64 (jA x))]
def Qa{l:List Sm}{i:Nat}{x:Sm}(hi:i<l.length)(A2:l[i]=x)(AA:(bS x).length<100000000)(t v:Ex)(H U I v5:Nat)(Z:List D)(k:Kt)(Q:List Ex->bU->Prop)
 (N:∀(Y:Env)(out:List Ex) u,Q out (k (.exit 2) ⟨81,aC,(0,true,.d (.list (l.map bZ)))::(3,true,.vec 250 H 0 U)::(4,true,.d (.int .i64 i))::(5,true,.ptr 350 I 0)::Y,[⟨250,H,.vec 19 Z⟩,⟨350,I,UM x t v (.d (.list (out.map bJ))) (.d (.list ((aV x).map dr)))⟩,⟨352,u,.dead⟩,⟨353,v5,.dead⟩]⟩)):
 ∀(rest pre out:List Ex)(u:Nat),bS x=pre++rest->out.length=pre.length->(∀y∈rest,uL y)->
 Q (out++cx rest) (aK ctx 45 (.loop (Code.at (aU f45) [1,1,0,1,0,0,1,0,0,1,1,1,1,0,1,0,0])) ⟨81,aC,[(0,true,.d (.list (l.map bZ))),(3,true,.vec 250 H 0 U),(4,true,.d (.int .i64 i)),(5,true,.ptr 350 I 0),(6,true,.d (.int .i64 pre.length))],[⟨250,H,.vec 19 Z⟩,⟨350,I,UM x t v (.vec 352 u 0 out.length) (.d (.list ((aV x).map dr)))⟩,⟨352,u,.vec 6 (out.map bJ)⟩,⟨353,v5,.dead⟩]⟩ k)
 |[],pre,out,u,E,A0,A'=>by
  have A5:pre.length=(bS x).length:=by rw[E];simp
  have:=N [(6,true,.d (.int .i64 (bS x).length)),(34,true,.d (.bool false))] out (u+1);simp[cx]at this⊢;rw[A5,ag];simp[f45,hi,A2,dk,this]
 |y::rest,pre,out,u,E,A0,A'=>by
  have A3:pre.length<(bS x).length:=by rw[E];simp
  have A4:(bS x)[pre.length]=y:=by simp[E]
  have J:=A' y (by simp);unfold uL at J;have ih:=λu=>Qa hi A2 AA t v H U I v5 Z k Q N rest (pre++[y]) (out++[cC y]) u (by simp[E]) (by simp[A0]) (λy A6=>A' y (by simp[A6]));have A7:=bu ((pre.length:Int)+1);have A8:out.length<=4611686018427387903:=by omega
  have A9:(out.length+1)*80<=140737488355328:=by omega
  have e:out++cx (y::rest)=out++[cC y]++cx rest:=by simp[cx]
  rw[e,ag];generalize cC y=AM at*;simp[aw]at J;simp[f45,aw]at ih⊢;simp[hi,A2,dk,A3,A4,aw,J,A7,A8,A9,ih,ai]
def Qb{l:List Sm}{i:Nat}{x:Sm}(hi:i<l.length)(A2:l[i]=x)(AA:(aV x).length<100000000)(t v:Ex)(cs:List Ex)(H U I v4:Nat)(Z:List D)(k:Kt)(Q:List (List Sm)->bU->Prop)
 (N:∀(Y:Env)(out:List (List Sm)) u,Q out (k (.exit 4) ⟨81,aC,(0,true,.d (.list (l.map bZ)))::(3,true,.vec 250 H 0 U)::(4,true,.d (.int .i64 i))::(5,true,.ptr 350 I 0)::Y,[⟨250,H,.vec 19 Z⟩,⟨350,I,UM x t v (.d (.list (cs.map bJ))) (.d (.list (out.map dr)))⟩,⟨352,v4,.dead⟩,⟨353,u,.dead⟩]⟩)):
 ∀(rest pre out:List (List Sm))(u:Nat),aV x=pre++rest->out.length=pre.length->(∀b∈rest,Jh b)->
 Q (out++gS rest) (aK ctx 45 (.loop (Code.at (aU f45) [1,1,0,1,0,0,1,0,0,1,1,1,1,1,1,0,1,0,0])) ⟨81,aC,[(0,true,.d (.list (l.map bZ))),(3,true,.vec 250 H 0 U),(4,true,.d (.int .i64 i)),(5,true,.ptr 350 I 0),(7,true,.d (.int .i64 pre.length))],[⟨250,H,.vec 19 Z⟩,⟨350,I,UM x t v (.d (.list (cs.map bJ))) (.vec 353 u 0 out.length)⟩,⟨352,v4,.dead⟩,⟨353,u,.vec 1 (out.map dr)⟩]⟩ k)
 |[],pre,out,u,E,A0,A'=>by
  have A5:pre.length=(aV x).length:=by rw[E];simp
  have:=N [(7,true,.d (.int .i64 (aV x).length)),(59,true,.d (.bool false))] out (u+1);simp[gS]at this⊢;rw[A5,ag];simp[f45,hi,A2,dk,this]
 |b::rest,pre,out,u,E,A0,A'=>by
  have A3:pre.length<(aV x).length:=by rw[E];simp
  have A4:(aV x)[pre.length]=b:=by simp[E]
  have J:=A' b (by simp);unfold Jh at J;have ih:=λu=>Qb hi A2 AA t v cs H U I v4 Z k Q N rest (pre++[b]) (out++[cy b]) u (by simp[E]) (by simp[A0]) (λy A6=>A' y (by simp[A6]));have A7:=bu ((pre.length:Int)+1);have A8:out.length<=4611686018427387903:=by omega
  have A9:(out.length+1)*24<=140737488355328:=by omega
  have e:out++gS (b::rest)=out++[cy b]++gS rest:=by simp[gS]
  rw[e,ag];generalize cy b=AN at*;simp[f45,dr]at ih J⊢;simp[hi,A2,dk,A3,A4,dr,J,A7,A8,A9,ih,ai]
def Qc(l:List Sm)(AJ:l.length<100000000)(k:Kt)(Q:List Sm->bU->Prop)
 (N:∀(Y:Env)(out:List Sm) v v3 A1 v4 v5,Q out (k (.exit 0) ⟨81,aC,(0,true,.d (.list (l.map bZ)))::(3,true,.vec 250 v 0 out.length)::Y,[⟨250,v,.vec 19 (out.map bZ)⟩,⟨350,v3,A1⟩,⟨352,v4,.dead⟩,⟨353,v5,.dead⟩]⟩)):
 ∀(rest pre out:List Sm)(v v3:Nat)(A1:aE)(v4 v5:Nat),l=pre++rest->out.length=pre.length->(∀x∈rest,X8 x)->
 Q (out++cy rest) (aK ctx 45 (.loop (Code.at (aU f45) [1,1,0,1,0,0])) ⟨81,aC,[(0,true,.d (.list (l.map bZ))),(3,true,.vec 250 v 0 out.length),(4,true,.d (.int .i64 pre.length))],[⟨250,v,.vec 19 (out.map bZ)⟩,⟨350,v3,A1⟩,⟨352,v4,.dead⟩,⟨353,v5,.dead⟩]⟩ k)
 |[],pre,out,v,v3,A1,v4,v5,E,A0,A'=>by
  have A5:pre.length=l.length:=by rw[E];simp
  have:=N [(4,true,.d (.int .i64 l.length)),(11,true,.d (.bool false))] out v v3 A1 v4 v5;simp[cy]at this⊢;rw[A5,ag];simp[f45,this]
 |x::rest,pre,out,v,v3,A1,v4,v5,E,A0,A'=>by
  have A3:pre.length<l.length:=by rw[E];simp
  have A4:l[pre.length]=x:=by simp[E]
  have J:=A' x (by simp);have AB:=J.to;have AC:=J.val;unfold uL at AB AC;have ih:=λv v3 A1 v4 v5=>Qc l AJ k Q N rest (pre++[x]) (out++[pY x]) v v3 A1 v4 v5 (by simp[E]) (by simp[A0]) (λy A6=>A' y (by simp[A6]));have AD:=λt v H U I v5 Z k Q N u=>Qa A3 A4 J.apJ t v H U I v5 Z k Q N (bS x) [] [] u rfl rfl J.conds;have AE:=λt v cs H U I v4 Z k Q N u=>Qb A3 A4 J.apK t v cs H U I v4 Z k Q N (aV x) [] [] u rfl rfl J.blocks;have A7:=bu ((pre.length:Int)+1);have A8:out.length<=4611686018427387903:=by omega
  have A9:(out.length+1)*288<=140737488355328:=by omega
  have e:out++cy (x::rest)=out++[pY x]++cy rest:=by simp[cy]
  have AH:bZ (pY x)=.agg [.int .i64 (bM x),.str (eG x),.int .i64 (bO (cC (dJ x))),.int .i64 (il (cC (dJ x))),.str (dI (cC (dJ x))),.str (fQ (cC (dJ x))),.list ((da (cC (dJ x))).map bJ),.int .i64 (jH (cC (dJ x))),.int .i64 (bO (cC (dq x))),.int .i64 (il (cC (dq x))),.str (dI (cC (dq x))),.str (fQ (cC (dq x))),.list ((da (cC (dq x))).map bJ),.int .i64 (jH (cC (dq x))),.list ((cx (bS x)).map bJ),.list ((dn x).map mQ),.list ((dy x).map .str),.list ((gS (aV x)).map dr),.int .i64 (jA x)]:=by
   obtain⟨op,name,to,val,conds,AO,fields,blocks,line⟩:=x;rw[dk];simp[pY,bM,eG,dJ,dq,bS,dn,dy,aV,jA]
  rw[e,ag];generalize cC (dJ x)=T at*;generalize cC (dq x)=V at*;generalize pY x=M at*;obtain⟨AF,AK⟩:∃AF,AF=cx (bS x):=⟨_,rfl⟩;obtain⟨AG,AL⟩:∃AG,AG=gS (aV x):=⟨_,rfl⟩;simp only[aba,<-AK,<-AL]at AD AE AH;simp[aw]at AB AC;simp[f45,aw]at ih AD AE⊢;simp[A3,A4,dk,aw,AB,AC];refine AD _ _ _ _ _ _ _ _ (λO r=>O=AF->Q (out++M::cy rest) r) (λY O u h=>?_) _ rfl;subst h;simp;refine AE _ _ _ _ _ _ _ _ _ (λAI r=>AI=AG->Q (out++M::cy rest) r) (λY AI u h=>?_) _ rfl;subst h;simp[AH]at ih;simp[A7,A8,A9,ih]
mutual
def o8{vs:List Vr}:∀x:Ex,bE x=true->eU x=true->(aJ vs x).e=0->uL x
 | .mk op n name field sub line,E,D,he=>by
  have O:=XF E he;simp only[pW]at O;have Af:=E;simp only[bE,Ds,aaw]at E;simp only[eU,Ds]at D;have M:=E.2.1;unfold dW at M;have AD:=E.2.2.2.2;have AE:=D.2;refine abr (by split at M<;>(try split at M)<;>omega) (λA'=>by
   by_cases h:op=4\/op=6\/op=7
   .rw[aav h]at M;exact .inl M
   .rw[aaf h,aav (by omega)]at M;exact .inr M) (λA'=>by rw[aav (.inr (.inl A'))]at M;exact M) (BZ sub AD AE O) (λy I A'=>?_) (λy I c A4=>?_)
  .have A0:=BF y ((gT _).1 AD y I) ((qM _).1 AE y I) (O y I);have AF:=A0.1;generalize cC y=w at*;obtain⟨o,Ag,Ah,fd,Ai,Aj⟩:=w;simp only[bO]at A';subst A';simp only[bE,Ds,aaw]at AF;have:=AF.2.1;unfold dW at this;simp at this;exact DQ this
  have A0:=BF y ((gT _).1 AD y I) ((qM _).1 AE y I) (O y I);have:=(Oi A4 A0.1 A0.2.1 (by rw[A0.2.2.1];exact O y I)).2;unfold dE;omega
def BZ{vs:List Vr}:∀l:List Ex,bY l=true->eu l=true->(∀y∈l,(aJ vs y).e=0)->∀y∈l,uL y
 |[],_,_,_,y,I=>absurd I (aaH)
 |x::r,E,D,he,y,I=>by
  simp only[bY,Ds]at E;simp only[eu,Ds]at D;rcases aam.1 I with h|h
  .rw[h];exact o8 x E.1 D.1 (he x (by simp))
  .exact BZ r E.2 D.2 (λz AN=>he z (by simp[AN])) y h
end
def jv{x:Ex}(h:ek x=true):uL x:=by
 obtain⟨op,n,name,field,sub,line⟩:=x;have h:(decide (op=0)&&(decide (n=0)&&decide (name.length+field.length+sub.length=0)))=true:=h;simp only[Ds,aaw]at h;have O:sub=[]:=aaB (by omega);have A5:=h.1;subst O;exact abr (by simp) (λA'=>by omega) (λA'=>by omega) (λy I=>absurd I (aaH)) (λy I=>absurd I (aaH)) (λy I=>absurd I (aaH))
def UN(l:List Sm)(AO:l.length<100000000)(AP:∀x∈l,X8 x):Jh l:=by
 have AI:=λk Q A1 v v3 AJ v4 v5=>Qc l AO k Q A1 l [] [] v v3 AJ v4 v5 rfl rfl AP;unfold Jh;obtain⟨R,AK⟩:∃R,R=cy l:=⟨_,rfl⟩;rw[<-AK,alr (by simp)];simp[f45,<-AK]at AI⊢;refine AI _ (λout r=>out=R->r=some (.ret (.d (.list (R.map bZ))),[])) (λY out v v3 AJ v4 v5 h=>?_) _ _ _ _ _ rfl;subst h;simp
def ajz{vs:List Vr}{lp:Bool}{x:Sm}(E:jr x=true)(D:oG x=true)(h:(kr vs lp x).1=0)(H:xw x)(A7:∀(lp:Bool) (cs:List Ex),cA (aV x)=true->gU (aV x)=true->(eO vs lp cs (aV x)).1=0->mI (aV x)->∀b∈aV x,Jh b):X8 x:=by
 have A0:(uL (dJ x)/\uL (dq x))/\(∀c∈bS x,uL c)/\∀b∈aV x,Jh b:=by
  have AQ:eU (dJ x)=true/\eU (dq x)=true/\eu (bS x)=true/\gU (aV x)=true:=by
   obtain⟨op,name,to,val,conds,AG,fields,blocks,line⟩:=x;simp only[oG,Ds]at D;exact⟨D.1,D.2.1,D.2.2.1,D.2.2.2.2⟩
  have A8:mI (aV x):=by
   obtain⟨op,name,to,val,conds,AG,fields,blocks,line⟩:=x;simp only[xw]at H;exact H.2
  obtain⟨AR,AC,A6,A9⟩:=AQ;cases EJ E h with
  |WD J AL O ft AS A2 AT AM=>exact⟨⟨o8 _ ft AR AS,o8 _ A2 AC AT⟩,by simp[bS],by simp[aV]⟩
  |Oo J U AH A3 N AA V hh=>
   exact⟨⟨jv J,jv U⟩,BZ _ AH A6 (λc A4=>(eZ (qQ N hh c A4)).1),A7 _ _ V A9 hh A8⟩
  |WE J A2 AB N AA Ak V hh=>exact⟨⟨jv J,o8 _ A2 AC (eZ AB).1⟩,by simp[bS],A7 _ _ V A9 hh A8⟩
  |WG H J U AL O Al AM AU AV AW AX AY AZ V hh=>
   simp only[bS,eu,Ds]at A6;refine⟨⟨jv J,jv U⟩,?_,A7 true [] (by simpa [aV,cA]using V) A9 (by simp[aV,eO,fu,hh]) A8⟩;intro c A4;simp only[bS,aam,aaH,ajl]at A4;rcases A4 with rfl|rfl|rfl
   .exact o8 _ AU A6.1 (eZ AV).1
   .exact o8 _ AW A6.2.1 (eZ AX).1
   .exact o8 _ AY A6.2.2.1 (eZ AZ).1
  |WH J A2 AB V hh=>exact⟨⟨jv J,o8 _ A2 AC (eZ AB).1⟩,by simp[bS],A7 true [] (by simpa [aV,cA]using V) A9 (by simp[aV,eO,fu,hh]) A8⟩
  |rep J A2 AB V hh=>exact⟨⟨jv J,o8 _ A2 AC (eZ AB).1⟩,by simp[bS],A7 true [] (by simpa [aV,cA]using V) A9 (by simp[aV,eO,fu,hh]) A8⟩
  |ext J U An=>exact⟨⟨jv J,jv U⟩,by simp[bS],by simp[aV]⟩
  |ret J U=>exact⟨⟨jv J,jv U⟩,by simp[bS],by simp[aV]⟩
  |WI Ao J U AL AM AH A_ AF hh=>exact⟨⟨jv J,jv U⟩,BZ _ AH A6 (As _ _ [] A_ hh),by simp[aV]⟩
 have M:(bS x).length<100000000/\(aV x).length<100000000:=by
  obtain⟨op,name,to,val,conds,AG,fields,blocks,line⟩:=x;simp only[xw]at H;exact⟨H.1.2.2.1.1,H.1.2.2.2.2.2⟩
 obtain⟨⟨Aa,Ab⟩,Ac,Ad⟩:=A0;exact⟨Aa,Ab,M.1,Ac,M.2,Ad⟩
mutual
def adJ{vs:List Vr}:∀(x:Sm)(lp:Bool),jr x=true->oG x=true->(kr vs lp x).1=0->xw x->X8 x
 | .mk op name to val conds AG fields blocks line,lp,E,D,h,H=>ajz E D h H (λlp cs A3 N AA Ae=>Eb blocks lp cs A3 N AA Ae)
def yN{vs:List Vr}:∀(l:List Sm)(lp:Bool),eF l=true->jD l=true->(eK vs lp l).1=0->mJ l->∀x∈l,X8 x
 |[],_,_,_,_,_,x,A1=>absurd A1 (aaH)
 |y::r,lp,E,D,h,H,x,A1=>by
  simp only[eF,Ds]at E;simp only[jD,Ds]at D;simp only[eK]at h;simp only[mJ]at H;obtain⟨A3,N⟩:=b9.1 h;rcases aam.1 A1 with A5|A1
  .rw[A5];exact adJ y lp E.1 D.1 A3 H.1
  .exact yN r lp E.2 D.2 N H.2 x A1
def Eb{vs:List Vr}:∀(l:List (List Sm))(lp:Bool)(cs:List Ex),cA l=true->gU l=true->(eO vs lp cs l).1=0->mI l->∀b∈l,Jh b
 |[],_,_,_,_,_,_,b,Z=>absurd Z (aaH)
 |y::r,lp,[],E,D,h,H,b,Z=>by
  simp only[cA,Ds]at E;simp only[gU,Ds]at D;simp only[eO]at h;simp only[mI]at H;obtain⟨A3,N⟩:=b9.1 h;rcases aam.1 Z with A5|Z
  .rw[A5];exact UN y H.1.1 (yN y lp E.1 D.1 A3 H.1.2)
  .exact Eb r lp [] E.2 D.2 N H.2 b Z
 |y::r,lp,c::cs,E,D,h,H,b,Z=>by
  simp only[cA,Ds]at E;simp only[gU,Ds]at D;simp only[eO]at h;simp only[mI]at H;obtain⟨A3,N⟩:=b9.1 h;obtain⟨N,AA⟩:=b9.1 N;rcases aam.1 Z with A5|Z
  .rw[A5];exact UN y H.1.1 (yN y lp E.1 D.1 N H.1.2)
  .exact Eb r lp cs E.2 D.2 AA H.2 b Z
end
def zC{P:Program}{g:FuncId}{fn:Func}(Z:P.funcs[g]?=some fn)(A':fn.body.isSome=true)(A0:(fn.name == "runtime.NumGoroutine")=false):iS P g=true:=by
 unfold iS;rw[Z];simp only[A',A0];rfl
def AN{w F s v}(h:aP w F (.str s) v):∃b:ByteArray,v=.string b/\b.data.toList=s:=by
 cases h with
 |str b s h=>exact⟨b,rfl,h⟩
def Sv{w F k n v}(h:aP w F (.int k n) v):v=.int k n:=by cases h;rfl
def G5{O:List D}{a b:D}{w F}{vs:Array Value}(E:O=[a,b])(J:O.length=vs.size)(H:∀(i:Nat) x v,O[i]?=some x->vs[i]?=some v->aP w F x v):
 ∃x y,vs=#[x,y]/\aP w F a x/\aP w F b y:=by
 subst E;obtain⟨l⟩:=vs;match l,J with
 |[x,y],_=>exact⟨x,y,rfl,H 0 a x rfl rfl,H 1 b y rfl rfl⟩
def adN{w:World}{F}(M:fG w F aC):∃m,w.cell? ⟨2,0,none⟩=some (.int .i64 m):=by
 obtain⟨_,_,A2,I,N⟩:=M (2,.int .i64 (id (α:=Int) (default:bP))) (by simp[aC]);generalize id (α:=Int) (default:bP)=z at I;obtain rfl:=Sv I;exact⟨z,N 0 _ (by simp[Value.cells])⟩
def amA:tO ctx 177 (qf Ww):=by
 refine tO.lift ⟨zC Tryz.func177 (by kernel_rfl) (by kernel_rfl),λO d E F w vs M V J H=>?_⟩;unfold Ww at E;split at E
 .rename_i s p;obtain⟨x,y,rfl,I,N⟩:=G5 rfl J H;obtain⟨a,rfl,rfl⟩:=AN I;obtain⟨b,rfl,rfl⟩:=AN N;refine (Any.strings_HasPrefix ajC a b w).mono ?_;rintro e w' ⟨rfl,rfl⟩;cases E;exact⟨_,rfl,Go.RowKit.Below.refl _ _,.bool _⟩
 .cases E
def amB:tO ctx 222 (qf Wv):=by
 refine tO.lift ⟨zC Tryz.func222 (by kernel_rfl) (by kernel_rfl),λO d E F w vs M V J H=>?_⟩;unfold Wv at E;split at E
 .rename_i s p;obtain⟨x,y,rfl,I,N⟩:=G5 rfl J H;obtain⟨a,rfl,rfl⟩:=AN I;obtain rfl:=Sv N;refine (Any.stringslite_IndexByte adM a _ w).mono ?_;rintro e w' ⟨rfl,rfl⟩;cases E;exact⟨_,rfl,Go.RowKit.Below.refl _ _,.int _ _⟩
 .cases E
def ajD:tO ctx 179 (qf Oa):=by
 refine tO.lift ⟨zC Tryz.func179 (by kernel_rfl) (by kernel_rfl),λO d E F w vs M V J H=>?_⟩;unfold Oa at E;split at E
 .rename_i s p;split at E
  .rename_i A1;obtain⟨x,y,rfl,I,N⟩:=G5 rfl J H;obtain⟨a,rfl,rfl⟩:=AN I;obtain⟨b,rfl,rfl⟩:=AN N;obtain⟨m,hm⟩:=adN M;refine (Any.strings_Index adL a b m w (by simpa using A1) hm).mono ?_;rintro e w' ⟨rfl,rfl⟩;cases E;exact⟨_,rfl,Go.RowKit.Below.refl _ _,.int _ _⟩
  .cases E
 .cases E
def adO:∀g h,ctx.zT g=some h->tO ctx g h:=by
 intro g h M;have U:Zn g=some h:=M;unfold Zn at U;split at U;all_goals first|(cases U;first|exact amA|exact amB|exact ajD)|cases U
end Go.Am
end
