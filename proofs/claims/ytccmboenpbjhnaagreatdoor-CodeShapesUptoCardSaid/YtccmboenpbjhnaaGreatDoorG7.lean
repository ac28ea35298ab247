/-
  Texts of one proof, one behind the other.
-/
import Derived.Test.YtccmboenpbjhnaaGreatDoorG6
import Derived.KernelRfl
import Derived.Test.YtccmboenpbjhnaaGreatDoorProg
import Derived.Shelf.Lays
import Derived.Shelf.Strings.Search3
import Derived.Shelf.Strings.Prefix
import Derived.LaidLaws
import Derived.JoinedCond
set_option linter.all false
section
namespace Go.Am
open Go
section
variable {vs:List Vr}
mutual
theorem yC:∀x:Ex,(ar vs x).1.length<=ek (bU x)
 | .mk op n name field sub line=>by
  have E:=Hs sub;have H:=Yf sub;unfold ar;simp only[bU,ek,bQ];split
  ·simp only[abb,abn];omega
  ·split
   ·simp only[abb,abn];omega
   ·split
    ·simp only[abb,abn];omega
    ·split
     ·simp only[aa9,abb,abn];omega
     ·simp only[aa9,abb,abn];omega
theorem Hs:∀l:List Ex,(iO vs l).1.length<=bQ (gK l)
 |[]=>by simp[iO]
 |[x]=>by
  have:=yC x;simp only[iO,gK,bQ];omega
 |x::y::r=>by
  have E:=yC x;have H:=Hs (y::r);simp only[gK,bQ]at H;simp only[iO,gK,bQ,aa9]at H⊢;omega
theorem Yf:∀l:List Ex,(qp vs l).length<=bQ (gK l)
 |[]=>by simp[qp]
 |x::r=>by
  have:=yC x;simp only[qp,gK,bQ];omega
end
theorem aj1(x:Ex):(ar vs x).1.length<=bQ (x8 x)+1:=by
 have:=yC (vs:=vs) x;rw[yl]at this;exact this
theorem ae4(x:Ex):(qp vs (de x)).length<=bQ (x8 x):=by
 obtain⟨op,n,name,field,sub,line⟩:=x;have:=Yf (vs:=vs) sub;simp only[x8,qg,bQ,ek];omega
end
theorem Js(x:Ex):7<=ek (bU x):=by
 obtain⟨op,n,name,field,sub,line⟩:=x;simp only[bU,ek,bQ];omega
theorem adR(x:Ex):6<=bQ (x8 x):=by
 have:=Js x;rw[yl]at this;omega
theorem aj2(n:Int)(t:Bool)(line:Int):ek (bU (m4 n t line))<=14:=by
 unfold m4;split
 ·simp[bU,gK,ek,bQ]
 ·split
  ·simp[bU,gK,ek,bQ]
  ·simp[bU,gK,ek,bQ]
theorem anr(x:Ex):ek (bU (lU x))<=ek (bU x):=by
 unfold lU;split
 ·omega
 ·split
  ·omega
  ·rename_i l J;split
   ·omega
   ·rename_i r T;split
    ·omega
    ·have hm:=λU=>aj2 r.1 r.2.1 U;obtain⟨op,n,name,field,sub,line⟩:=x;simp only[qg]at J;cases sub with
     |nil=>
      simp only[o6,abp]at J;subst J;simp[L3]at T
     |cons y q=>
      have:=Js y;refine ajn (hm _) ?_;simp only[bU,gK,ek,bQ];omega
mutual
theorem adS:∀x:Ex,ek (bU (dk x))<=ek (bU x)
 | .mk op n name field sub line=>by
  have h:=MM sub;have E:=anr (.mk op n name field (df sub) line);unfold dk;refine ajn E ?_;simp only[bU,ek,bQ];omega
theorem MM:∀l:List Ex,bQ (gK (df l))<=bQ (gK l)
 |[]=>by simp[df]
 |x::r=>by
  have E:=adS x;have H:=MM r;simp only[df,gK,bQ];omega
end
theorem adT(x:Ex):bQ (x8 (dk x))<=bQ (x8 x):=by
 have:=adS x;rw[yl,yl]at this;omega
mutual
theorem ans:∀x:Sm,ek (cq (tB x))<=ek (cq x)
 | .mk op name to val conds I fields blocks line=>by
  have E:=adT to;have H:=adT val;have M:=MM conds;have V:=Yg blocks;simp only[tB,cq,ek,bQ,ry];omega
theorem MN:∀l:List Sm,bQ (mM (dX l))<=bQ (mM l)
 |[]=>by simp[dX]
 |x::r=>by
  have E:=ans x;have H:=MN r;simp only[dX,mM,bQ];omega
theorem Yg:∀l:List (List Sm),bQ (mL (iV l))<=bQ (mL l)
 |[]=>by simp[iV]
 |b::r=>by
  have E:=MN b;have H:=Yg r;simp only[iV,mL,bQ,ek];omega
end
def qv(l:List (List au)):Nat:=(l.map λt=>t.length+1).sum
theorem Jt:∀(ts bs:List (List au)),(dh ts bs).length<=qv ts+qv bs
 |[],[]=>by simp[dh]
 |_::_,[]=>by simp[dh]
 |[],b::r=>by
  have ih:=Jt [] r;rw[Ho];simp only[qv,adC,ajR,List.map_nil,List.sum_nil]at ih⊢;split
  ·omega
  ·simp only[eG,aa9,abb,abn];omega
 |t::ts,b::r=>by
  have ih:=Jt ts r;rw[dh];simp only[qv,adC,ajR]at ih⊢;generalize dh ts r=out at ih⊢;rw[eG];simp only[aa9,abb,abn,mG];split
  ·omega
  ·simp only[aa9,abb,abn];omega
theorem Yh(c:Int):∀l:List Int,(eH c l).length<=l.length
 |[]=>by simp[eH]
 |[_]=>by simp[eH]
 |a::b::r=>by
  have:=Yh c r;simp only[eH,abb];omega
theorem Yi(c:Int):∀l:List (List Int),qv (l.map λl=>ins 1 0 0 0 0::eH c l)<=2*bQ (l.map n8)
 |[]=>by simp[qv]
 |x::r=>by
  have E:=Yi c r;have H:=Yh c x;have M:=adx x;have V:1+x.length<=ek (n8 x):=by
   have:=zL (λn=>D.int .i64 n) x;simp only[n8,ek];omega
  simp only[qv,adC,ajR,bQ,abb]at E⊢;omega
section
variable {vs:List Vr}
theorem Rl:∀l:List Ex,qv (l.map λx=>(ar vs x).1)<=2*bQ (gK l)
 |[]=>by simp[qv]
 |x::r=>by
  have E:=Rl r;have H:=yC (vs:=vs) x;have M:=Js x;simp only[qv,adC,ajR,gK,bQ]at E⊢;omega
theorem Rn(name:Tx):∀(O:List Tx)(xs:List Ex),(en vs name O xs).length<=2*bQ (gK xs)
 |[],xs=>by cases xs<;>simp[en]
 |_::_,[]=>by simp[en]
 |f::O,x::xs=>by
  have E:=Rn name O xs;have H:=yC (vs:=vs) x;have M:=Js x;simp only[en,aa9,abb,gK,bQ];omega
mutual
theorem aj3:∀(s:Sm)(c:Int),(dn vs s c).1.length+1<=2*ek (cq s)
 | .mk op name to val conds I fields blocks line,c=>by
  have E:=λc=>Ro blocks c;have H:=λc=>aj4 blocks c;have Y:=adR to;have a2:=adR val;have a3:=aj1 (vs:=vs) val;have a4:=ae4 (vs:=vs) to;have a5:=Rl (vs:=vs) conds;have Z:=Hs (vs:=vs) conds;have A':=Rn (vs:=vs) name fields conds;simp only[cq,ek,bQ,ry];unfold dn;split
  ·split
   ·simp only[aa9,abb,abn];omega
   ·simp only[aa9,abb,abn];omega
  ·split
   ·have q1:=E c;have q2:=Jt (conds.map λx=>(ar vs x).1) (aA vs blocks c).1;simp only;omega
   ·split
    ·have q1:=E (c+1);have q2:=Jt (I.map λl=>ins 1 0 0 0 0::eH c l) (aA vs blocks (c+1)).1;have q3:=Yi c I;simp only[eG,aa9,abb,abn];omega
    ·split
     ·have q1:=H (c+2);simp only[eG,ml,pf,mG,aa9,abb,abn];omega
     ·split
      ·have q1:=H c;simp only[iY,pf,mG,aa9,abb,abn];omega
      ·split
       ·have q1:=H c;simp only[nC,pf,mG,aa9,abb,abn];omega
       ·split
        ·simp only[abb,abn];omega
        ·split
         ·simp only[abb,abn];omega
         ·simp only[aa9,abb,abn];omega
theorem CK:∀(l:List Sm)(c:Int),(ag vs l c).1.length<=2*bQ (mM l)
 |[],c=>by simp[ag]
 |x::r,c=>by
  have E:=aj3 x c;have H:=CK r (dn vs x c).2;simp only[ag,mM,bQ,eG,abb,abn];omega
theorem Ro:∀(l:List (List Sm))(c:Int),qv (aA vs l c).1<=2*bQ (mL l)
 |[],c=>by simp[aA,qv]
 |b::r,c=>by
  have E:=CK b c;have H:=Ro r (ag vs b c).2;simp only[qv]at H;simp only[aA,mL,bQ,ek,qv,adC,ajR];omega
theorem aj4:∀(l:List (List Sm))(c:Int),(mQ vs l c).1.length<=2*bQ (mL l)
 |[],c=>by simp[mQ]
 |b::r,c=>by
  have E:=CK b c;simp only[mQ,mL,bQ,ek];omega
end
end
mutual
theorem ant:∀s:Sm,yy s<=ek (cq s)
 | .mk op name to val conds I fields blocks line=>by
  have:=Yj blocks;simp only[yy,cq,ek,bQ,ry];omega
theorem MO:∀l:List Sm,ja l<=bQ (mM l)
 |[]=>by simp[ja]
 |x::r=>by
  have E:=ant x;have H:=MO r;simp only[ja,mM,bQ];omega
theorem Yj:∀l:List (List Sm),xx l<=bQ (mL l)
 |[]=>by simp[xx]
 |b::r=>by
  have E:=MO b;have H:=Yj r;simp only[xx,mL,bQ,ek];omega
end
theorem UJ(p:Pg){n:Nat}(h:ek (.agg [.str p.name,.list (p.vars.map bN),.list (p.body.map cq)])<n):
 (∀c,(ag p.vars (dX p.body) c).1.length<2*n)/\ja (dX p.body)<n/\(dX p.body).length<n:=by
 simp only[ek,bQ]at h;rw[<-yb]at h;have A0:=MN p.body;have E:=MO (dX p.body);have H:=nA (mM (dX p.body));rw[Ec]at H;refine⟨λc=>?_,by omega,by omega⟩;have:=CK (vs:=p.vars) (dX p.body) c;omega
end Go.Am
end
section
namespace Go.Am
open Go Go.Proofs Go.Proofs.Tryz
variable [Inhabited b7]
set_option maxRecDepth 20000
@[simp] def okZ(p:Int×Bool):AV:=.bg [.d (.int .i64 p.1),.d (.bool p.2)]
@[simp] def aj5(p:Int×Int):AV:=.bg [.d (.int .i64 p.1),.d (.int .i64 p.2)]
theorem aaK(a b:Int)(H:bj a)(Z:bj b):ai ctx 244 [.d (.int .i64 a),.d (.int .i64 b)] []=some (.ret (okZ (mg (a+b))),[]):=by
 have hw:IntKind.i64.wrap (a+b)=(a+b+9223372036854775808)%18446744073709551616-9223372036854775808:=IntKind.wrap_i64 _;unfold bj at H Z;rw[aif (by simp)];unfold mg;by_cases E:0<=a<;>by_cases D:0<=b<;>by_cases U:0<=IntKind.i64.wrap (a+b)<;>by_cases T:(-9223372036854775808<=a+b/\a+b<=9223372036854775807)<;>
  first
  |(exfalso;omega)
  |(simp[f244,E,D,U,T];try omega)
theorem MP(a b:Int)(H:bj a)(Z:bj b):ai ctx 243 [.d (.int .i64 a),.d (.int .i64 b)] []=some (.ret (okZ (mg (a-b))),[]):=by
 have hw:IntKind.i64.wrap (a-b)=(a-b+9223372036854775808)%18446744073709551616-9223372036854775808:=IntKind.wrap_i64 _;unfold bj at H Z;rw[aie (by simp)];unfold mg;by_cases E:0<=a<;>by_cases D:0<=b<;>by_cases U:0<=IntKind.i64.wrap (a-b)<;>by_cases T:(-9223372036854775808<=a-b/\a-b<=9223372036854775807)<;>
  first
  |(exfalso;omega)
  |(simp[f243,E,D,U,T];try omega)
theorem IV(a:Int)(H:bj a):ai ctx 277 [.d (.int .i64 a)] []=some (.ret (.d (.int .u64 (a.natAbs:Nat))),[]):=by
 unfold bj at H;rw[aio (by simp)];have E:=IntKind.wrap_u64 a;by_cases h:a<0
 ·have D:IntKind.u64.wrap (-IntKind.u64.wrap a)=(a.natAbs:Nat):=by rw[E,IntKind.wrap_u64];omega
  simp[f277,h,D]
 ·have D:IntKind.u64.wrap a=(a.natAbs:Nat):=by rw[E];omega
  simp[f277,h,D]
theorem NR(n:Nat)(Aq:n<18446744073709551616)(s:Bool):ai ctx 278 [.d (.int .u64 n),.d (.bool s)] []=some (.ret (okZ (mg (if s=true then-(n:Int)else n))),[]):=by
 rw[aip (by simp)];have E:=IntKind.wrap_i64 (n:Int);unfold mg;cases s
 ·by_cases h:n<=9223372036854775807
  ·have D:(n:Int)<=9223372036854775807:=by omega
   have U:IntKind.i64.wrap (n:Int)=n:=by rw[E];omega
   have T: -9223372036854775808<=(n:Int):=by omega
   simp[f278,D,U,T]
  ·have D:¬(n:Int)<=9223372036854775807:=by omega
   simp[f278,D]
 ·by_cases h:n<=9223372036854775808
  ·have D:(n:Int)<=9223372036854775808:=by omega
   have U:IntKind.i64.wrap (-(IntKind.i64.wrap (n:Int)))= -(n:Int):=by rw[E,IntKind.wrap_i64];omega
   have T: -9223372036854775808<= -(n:Int):=by omega
   have Aa: -(n:Int)<=9223372036854775807:=by omega
   simp[f278,D,U,T,Aa]
  ·have D:¬(n:Int)<=9223372036854775808:=by omega
   have T:¬ -9223372036854775808<= -(n:Int):=by omega
   simp[f278,D,T]
def zX(k:IntKind)(a b:Int):Int:=k.wrap (BitVec.ofInt k.bits a &&& BitVec.ofInt k.bits b).toNat
def MQ(k:IntKind)(a b:Int):Int:=k.wrap (BitVec.ofInt k.bits a ||| BitVec.ofInt k.bits b).toNat
theorem Gy(k:IntKind)(a b:Int):fG .and k a b=some (true,.int k (zX k a b)):=rfl
theorem Yk(k:IntKind)(a b:Int):fG .or k a b=some (true,.int k (MQ k a b)):=rfl
theorem anu(a:Nat)(H:a<18446744073709551616):zX .u64 (a:Int) 4294967295=((a%4294967296:Nat):Int):=by
 show IntKind.u64.wrap (BitVec.ofInt 64 (a:Int) &&& BitVec.ofInt 64 4294967295).toNat=_;have e:(BitVec.ofInt 64 (a:Int) &&& BitVec.ofInt 64 4294967295).toNat=a%4294967296:=by
  rw[BitVec.toNat_and,BitVec.toNat_ofInt,BitVec.toNat_ofInt];have Ab:((a:Int)%((2^64:Nat):Int)).toNat=a:=by omega
  have Ac:((4294967295:Int)%((2^64:Nat):Int)).toNat=4294967295:=by decide
  rw[Ab,Ac];exact Nat.and_two_pow_sub_one_eq_mod a 32
 rw[e,IntKind.wrap_u64];omega
theorem Yl(x y:Nat)(A6:x<18446744073709551616)(A7:y<18446744073709551616):
 ai ctx 276 [.d (.int .u64 x),.d (.int .u64 y)] []=some (.ret (.bg [.d (.int .u64 (x*y/18446744073709551616:Nat)),.d (.int .u64 (x*y%18446744073709551616:Nat))]),[]):=by
 have A8:∀a:Nat,a<18446744073709551616->zX .u64 (a:Int) 4294967295=((a%4294967296:Nat):Int):=λa H=>anu a H;have A0:∀a:Nat,(a:Int).fdiv 4294967296=((a/4294967296:Nat):Int):=λa=>by rw[Int.fdiv_eq_ediv_of_nonneg _ (by decide)];omega
 have mul':∀a b:Nat,(a:Int)*(b:Int)=((a*b:Nat):Int):=λa b=>(Int.natCast_mul a b).symm;have A3:∀a b:Nat,(a:Int)+(b:Int)=((a+b:Nat):Int):=λa b=>(Int.natCast_add a b).symm;have V:∀a:Nat,a<18446744073709551616->IntKind.u64.wrap (a:Int)=(a:Int):=λa h=>by rw[IntKind.wrap_u64];omega
 have AL:∀a:Nat,IntKind.u64.wrap (a:Int)=((a%18446744073709551616:Nat):Int):=λa=>by rw[IntKind.wrap_u64];omega
 obtain⟨A4,A1,A2,Y⟩:=Lib.mul64_hi x y A6 A7;have A9:=Lib.half_mul_le (a:=x/4294967296) (b:=y/4294967296) (by omega) (by omega);have AA:=Lib.half_mul_le (a:=x/4294967296) (b:=y%4294967296) (by omega) (by omega);have AB:=Lib.half_mul_le (a:=x%4294967296) (b:=y/4294967296) (by omega) (by omega);have AM:=A8 x A6;have AN:=A8 y A7;have f1:=A0 x;have f2:=A0 y;have Ad:x%4294967296<4294967296:=by omega
 have Ae:x/4294967296<4294967296:=by omega
 have Af:y%4294967296<4294967296:=by omega
 have Ag:y/4294967296<4294967296:=by omega
 have AO:IntKind.u64.wrap ((x:Int)*(y:Int))=((x*y%18446744073709551616:Nat):Int):=by rw[mul',AL]
 have AP:x*y/18446744073709551616<18446744073709551616:=by
  have:x*y<18446744073709551616*18446744073709551616:=Nat.mul_lt_mul_of_lt_of_lt A6 A7;omega
 generalize x*y%18446744073709551616=lo at AO⊢;generalize x*y/18446744073709551616=hi at Y AP⊢;generalize x%4294967296=I at A4 A1 A2 Y A9 AA AB AM Ad;generalize x/4294967296=J at A4 A1 A2 Y A9 AA AB f1 Ae;generalize y%4294967296=M at A4 A1 A2 Y A9 AA AB AN Af;generalize y/4294967296=O at A4 A1 A2 Y A9 AA AB f2 Ag;generalize AQ:J*M+I*M/4294967296=t at A1 A2 Y;generalize AR:t%4294967296+I*O=AC at A2 Y;have AS:IntKind.u64.wrap ((I:Int)*(M:Int))=((I*M:Nat):Int):=by rw[mul',V _ A4]
 have AT:IntKind.u64.wrap ((J:Int)*(M:Int))=((J*M:Nat):Int):=by rw[mul',V _ (by omega)]
 have AF:IntKind.u64.wrap (((J*M:Nat):Int)+((I*M/4294967296:Nat):Int))=(t:Int):=by rw[A3,AQ,V _ A1]
 have AU:IntKind.u64.wrap ((I:Int)*(O:Int))=((I*O:Nat):Int):=by rw[mul',V _ (by omega)]
 have AG:IntKind.u64.wrap (((t%4294967296:Nat):Int)+((I*O:Nat):Int))=(AC:Int):=by rw[A3,AR,V _ A2]
 have AW:IntKind.u64.wrap ((J:Int)*(O:Int))=((J*O:Nat):Int):=by rw[mul',V _ (by omega)]
 have AD:IntKind.u64.wrap (((J*O:Nat):Int)+((t/4294967296:Nat):Int))=((J*O+t/4294967296:Nat):Int):=by rw[A3,V _ (by omega)]
 have AE:IntKind.u64.wrap (((J*O+t/4294967296:Nat):Int)+((AC/4294967296:Nat):Int))=(hi:Int):=by rw[A3,Y,V _ AP]
 have Ah:=λa=>A0 a;have mt:=A8 t A1;rw[ain (by simp)];have f3:=A0 t;have f4:=A0 AC;have f5:=A0 (I*M);clear Ah A8 A0 A3 V AL AQ AR Y;generalize Ar:I*M/4294967296=As at AF f5;generalize Au:I*M=Av at AS f5;generalize Aw:J*M=Ax at AT AF;generalize Ay:I*O=Az at AU AG;generalize B':t/4294967296=Ai at AD AE f3;generalize B0:t%4294967296=B1 at AG mt;generalize B2:AC/4294967296=wd at AE f4;generalize B3:J*O+Ai=B4 at AD AE;generalize B5:J*O=B6 at AW AD;simp[f276, -fG.eq_6,Gy,DA,IntKind.bits,AM,AN,f1,f2,f3,f4,f5,mt,AS,AT,AF,AU,AG,AW,AD,AE,AO]
theorem aaL(a b:Int)(H:bj a)(Z:bj b):ai ctx 245 [.d (.int .i64 a),.d (.int .i64 b)] []=some (.ret (okZ (mg (a*b))),[]):=by
 have AX:=IV a H;have AY:=IV b Z;unfold bj at H Z;have Aj:a.natAbs<18446744073709551616:=by omega
 have Ak:b.natAbs<18446744073709551616:=by omega
 have hm:=Yl _ _ Aj Ak;have AZ:=aem a b;have A_:=λs=>NR (a.natAbs*b.natAbs%18446744073709551616) (by omega) s;generalize A6:a.natAbs=x at*;generalize A7:b.natAbs=y at*;have mul':((x*y:Nat):Int)=(x:Int)*(y:Int):=Int.natCast_mul x y;generalize x*y=p at*;have A5:(a<0↔b<0)=(decide (a<0)=decide (b<0)):=by simp
 rw[aih (by simp)];have AH:¬p/18446744073709551616=0->mg (a*b)=(0,false):=by
  intro h;unfold mg;rw[aa4];rw[AZ];split<;>omega
 by_cases AI:p/18446744073709551616=0
 ·have Al:p%18446744073709551616=p:=by omega
  rw[Al]at A_ hm;rw[AI]at hm;have e:(if (decide (a<0) != decide (b<0))=true then-(p:Int)else (p:Int))=a*b:=by
   rw[AZ];by_cases h:decide (a<0)=decide (b<0)<;>simp[h]
  have AJ:=A_ (decide (a<0) != decide (b<0));rw[e]at AJ;try simp at hm
  try simp at AJ
  simp[f245,AX,AY,hm,AJ]
 ·have AH:=AH AI;have An:¬((p/18446744073709551616:Nat):Int)=0:=by omega
  generalize p/18446744073709551616=q at*;generalize p%18446744073709551616=r at*;try simp at hm
  simp[f245,AX,AY,hm,AH,AI,An]
theorem aaM(a b:Int)(H:bj a)(Z:bj b):ai ctx 246 [.d (.int .i64 a),.d (.int .i64 b)] []=some (.ret (aj5 (BE a b)),[]):=by
 rw[aii (by simp)];unfold BE;by_cases A':b=0
 ·simp[f246,A']
 ·by_cases E:a= -9223372036854775808
  ·by_cases D:b= -1
   ·simp[f246,A',E,D]
   ·have w:IntKind.i64.wrap (a.tdiv b)=a.tdiv b:=az (by
     have AK:=K8 a b;unfold bj at*;have hle:a.natAbs/b.natAbs<=9223372036854775808:=by
      have:=Nat.div_le_self a.natAbs b.natAbs;omega
     have Ao:decide (a<0)=decide (b<0)->a.natAbs/b.natAbs<=4611686018427387904:=by
      intro A5;rw[E]at A5;simp at A5;have Ap:2<=b.natAbs:=by omega
      have U:=Nat.div_le_div_left Ap (by decide) (a:=a.natAbs);have T:a.natAbs=9223372036854775808:=by omega
      rw[T]at U⊢;exact U
     generalize a.natAbs/b.natAbs=q at*;split at AK
     ·rename_i A5;have:=Ao A5;omega
     ·omega)
    rw[E]at w;simp at w;simp[f246,A',E,D,w]
  ·have w:IntKind.i64.wrap (a.tdiv b)=a.tdiv b:=az (by
    have AK:=K8 a b;unfold bj at*;have hle:a.natAbs/b.natAbs<=a.natAbs:=Nat.div_le_self _ _;generalize a.natAbs/b.natAbs=q at*;split at AK<;>omega)
   simp[f246,A',E,w]
theorem aaN(a b:Int)(H:bj a)(Z:bj b):ai ctx 247 [.d (.int .i64 a),.d (.int .i64 b)] []=some (.ret (aj5 (D6 a b)),[]):=by
 rw[aij (by simp)];unfold D6;by_cases A':b=0
 ·simp[f247,A']
 ·by_cases D:b= -1
  ·simp[f247,A',D]
  ·simp[f247,A',D]
theorem qw(b:Bool):ai ctx 167 [.d (.bool b)] []=some (.ret (.d (.int .i64 (ei b))),[]):=by
 rw[ahP (by simp)];cases b<;>simp[f167,ei]
@[simp] theorem wr0:IntKind.i64.wrap 0=0:=rfl
@[simp] theorem wr1:IntKind.i64.wrap 1=1:=rfl
@[simp] theorem wr2:IntKind.i64.wrap 2=2:=rfl
@[simp] theorem wr3:IntKind.i64.wrap 3=3:=rfl
@[simp] theorem wr4:IntKind.i64.wrap 4=4:=rfl
@[simp] theorem aDj:IntKind.i64.wrap (-1)= -1:=rfl
@[simp] theorem wu0:IntKind.u64.wrap 0=0:=rfl
@[simp] theorem wu1:IntKind.u64.wrap 1=1:=rfl
theorem Ym(op a:Int)(t:Bool)(D:bj a)(Z:t=true->a=0\/a=1):ai ctx 191 [.d (.int .i64 op),.d (.int .i64 a),.d (.bool t)] []=some (.ret (Ov (tv op a t)),[]):=by
 have V:=MP 0 a (by unfold bj;omega) D;rw[ah1 (by simp)];unfold tv;generalize mg (0-a)=p at*;cases t
 ·by_cases Y:op=6
  ·simp at V;cases E:p.2<;>simp[f191,Y,E,V,xp]
  ·simp[f191,Y,mK]
 ·rcases Z rfl with rfl|rfl<;>by_cases M:op=7
  ·simp[f191,M,ei,wr0,wr1]
  ·simp[f191,M,mK]
  ·simp[f191,M,ei,wr0,wr1]
  ·simp[f191,M,mK]
theorem MS(op a b:Int)(D:a=0\/a=1)(H:b=0\/b=1):ai ctx 192 [.d (.int .i64 op),.d (.int .i64 a),.d (.int .i64 b)] []=some (.ret (Ov (K9 op a b)),[]):=by
 have y:zX .i64 0 0=0:=by decide
 have A':zX .i64 0 1=0:=by decide
 have A0:zX .i64 1 0=0:=by decide
 have A1:zX .i64 1 1=1:=by decide
 have A2:MQ .i64 0 0=0:=by decide
 have A3:MQ .i64 0 1=1:=by decide
 have A4:MQ .i64 1 0=1:=by decide
 have A5:MQ .i64 1 1=1:=by decide
 rw[ah2 (by simp)];unfold K9;have J:op=13\/op=14\/op=20\/op=19\/op=21\/(op≠13/\op≠14/\op≠20/\op≠19/\op≠21):=by omega
 rcases D with rfl|rfl<;>rcases H with rfl|rfl<;>rcases J with rfl|rfl|rfl|rfl|rfl|⟨A6,A7,I,A8,A9⟩<;>
  simp[f192,qw, -fG.eq_6, -fG.eq_7,Gy,Yk,ei,mK, *]
theorem MT(op a b:Int)(h:13<=op/\op<=18):ai ctx 194 [.d (.int .i64 op),.d (.int .i64 a),.d (.int .i64 b)] []=some (.ret (Ov (FQ op a b)),[]):=by
 rw[ah4 (by simp)];unfold FQ;have J:op=13\/op=14\/op=15\/op=16\/op=17\/op=18:=by omega
 rcases J with rfl|rfl|rfl|rfl|rfl|rfl<;>simp[f194,qw,bne]
theorem MU(op a b:Int)(h:8<=op/\op<=12)(D:bj a)(H:bj b):ai ctx 193 [.d (.int .i64 op),.d (.int .i64 a),.d (.int .i64 b)] []=some (.ret (Ov (FQ op a b)),[]):=by
 have q1:=aaK a b D H;have q2:=MP a b D H;have q3:=aaL a b D H;have O:=aaM a b D H;have T:=aaN a b D H;have J:op=8\/op=9\/op=10\/op=11\/op=12:=by omega
 rw[ah3 (by simp)];unfold FQ;generalize mg (a+b)=f1 at*;generalize mg (a-b)=f2 at*;generalize mg (a*b)=f3 at*;generalize BE a b=f4 at*;generalize D6 a b=f5 at*;simp at q1 q2 q3 O T;rcases J with rfl|rfl|rfl|rfl|rfl
 ·cases E:f1.2<;>simp[f193,q1,E,xp]
 ·cases E:f2.2<;>simp[f193,q2,E,xp]
 ·cases E:f3.2<;>simp[f193,q3,E,xp]
 ·by_cases I:f4.2=3
  ·simp[f193,O,I,rn]
  ·by_cases U:f4.2=0<;>simp[f193,O,U,I,rn]
 ·by_cases I:f5.2=3
  ·simp[f193,T,I,rn]
  ·by_cases U:f5.2=0<;>simp[f193,T,U,I,rn]
theorem NS(op a:Int)(t:Bool)(M:bj a):ai ctx 125 [.d (.int .i64 op),.d (.list [.int .i64 a]),.d (.bool t)] []=some (.ret (Ov (tv op a t)),[]):=by
 rw[Xk (by simp)];by_cases H:t=true/\a≠0/\a≠1
 ·obtain⟨rfl,U,D⟩:=H;simp[f125];rw[ah];simp[U,D,tv,mK]
 ·have D:=Ym op a t M (by intro h;subst h;simp at H;omega);have V:(t&&(a != 0))=true->a=1:=by simp;intro D E;simp[D]at H;exact H E
  generalize tv op a t=p at*;simp at D;cases t
  ·simp[f125];rw[ah];simp;rw[ah];simp[D]
  ·have Y:a=0\/a=1:=by simp at V;omega
   rcases Y with rfl|rfl
   ·simp[f125];rw[ah];simp;rw[ah];simp[D]
   ·simp[f125];rw[ah];simp;rw[ah];simp[D]
theorem NT(op a b:Int)(t:Bool)(M:bj a)(H:bj b):ai ctx 125 [.d (.int .i64 op),.d (.list [.int .i64 a,.int .i64 b]),.d (.bool t)] []=some (.ret (Ov (xU op a b t)),[]):=by
 rw[Xk (by simp)];have cmp:=λh=>MT op a b h;have Z:=λh=>MU op a b h M H;have tt:=λD E=>MS op a b D E;unfold xU;cases t
 ·have y:¬(8<=op/\op<=12)->¬(13<=op/\op<=18)->FQ op a b=mK:=by
   intro D E;unfold FQ;simp only[show ¬op=8 by omega,show ¬op=9 by omega,show ¬op=10 by omega,show ¬op=11 by omega,show ¬op=12 by omega,show ¬op=13 by omega,show ¬op=14 by omega,show ¬op=15 by omega,show ¬op=16 by omega,show ¬op=17 by omega,show ¬op=18 by omega,adW]
  generalize FQ op a b=p at*;simp[f125];rw[ah];simp;rw[ah];simp;rw[ah];simp;by_cases D:8<=op/\op<=12
  ·have r:=Z D;simp at r;simp[D.1,D.2,r,aw]
  ·by_cases E:13<=op/\op<=18
   ·have r:=cmp E;have I:¬op<=12:=by omega
    have J:8<=op:=by omega
    simp at r;simp[E.1,E.2,I,J,r,aw]
   ·have A':=y D E;subst A';by_cases T:8<=op
    ·have A0:¬op<=12:=by omega
     have O:13<=op:=by omega
     have A1:¬op<=18:=by omega
     simp[T,A0,O,A1,mK]
    ·have O:¬13<=op:=by omega
     simp[T,O,mK]
 ·by_cases D:a=0\/a=1
  ·by_cases E:b=0\/b=1
   ·have r:=tt D E;generalize K9 op a b=p at*;rcases D with rfl|rfl<;>rcases E with rfl|rfl<;>
     (simp at r
      simp[f125];rw[ah];simp;rw[ah];simp;rw[ah];simp[r,aw])
   ·have I:¬b=0:=by omega
    have J:¬b=1:=by omega
    rcases D with rfl|rfl<;>
     (simp[f125]
      rw[ah];simp;rw[ah];simp[I,J,mK])
  ·have I:¬a=0:=by omega
   have J:¬a=1:=by omega
   simp[f125];rw[ah];simp[I,J,mK]
def vz(o:Option (Int×Bool)):Out:=match o with|some c=>.ret (.bg [.d (.int .i64 c.1),.d (.bool c.2),.d (.bool true)])|none=>.ret (.bg [.d (.int .i64 0),.d (.bool false),.d (.bool false)])
theorem Yn(n:Int)(t:Bool)(line:Int):ai ctx 168 [.d (.int .i64 n),.d (.bool t),.d (.int .i64 line)] []=some (.ret (.d (bU (m4 n t line))),[]):=by
 rw[ahQ (by simp)];cases t with
 |true=>simp[f168,m4,bU,gK]
 |false=>
  by_cases h:0<=n
  ·simp[f168,m4,bU,gK,h]
  ·simp[f168,m4,bU,gK,h,QW]
theorem CL(x:Ex):ai ctx 166 [.d (bU x)] []=some (vz (j8 x),[]):=by
 obtain⟨op,n,name,field,sub,line⟩:=x;rw[ahO (by simp)];simp[f166,aJ];by_cases D:op=1
 ·subst D;simp[j8,vz]
 by_cases E:op=2
 ·subst E;simp[j8,vz]
 by_cases H:op=6
 ·subst H;match sub with
  |[]=>simp[j8,vz]
  |[y]=>
   by_cases I:b6 y=1
   ·simp[j8,vz,I,aJ,QW]
   ·simp[j8,vz,I,aJ]
  |y::z::r=>
   have J:¬((r.length:Int)+1+1=1):=by omega
   simp[j8,vz,J]
 ·simp[j8,vz,D,E,H]
def wL(y:Ex):Prop:=ai ctx 99 [.d (bU y)] []=some (.ret (.d (bU (dk y))),[])
theorem MV(l:List Ex)(M:l.length<100000000)(A B:cJ)(A4:A.key=150)(A5:B.key=200)(T U:aH)(k:Kt)(Q:List Ex->bZ->Prop)
 (I:∀(Y:Env)(out:List Ex) v v3 D,Q out (k (.exit 0) ⟨105,aI,(1,true,.ptr 150 1 0)::(2,true,.ptr 200 1 0)::(3,true,.vec 250 v 0 out.length)::Y,[A,B,⟨250,v,.vec 6 (out.map bU)⟩,⟨350,v3,D⟩,⟨550,0,T⟩,⟨700,0,U⟩]⟩)):
 ∀(rest pre out:List Ex)(v v3:Nat)(D:aH),l=pre++rest->out.length=pre.length->(∀y∈rest,wL y)->
 Q (out++df rest) (aO ctx 99 (.loop (Code.at (bk f99) [1,1,0,1,0,0])) ⟨105,aI,[(1,true,.ptr 150 1 0),(2,true,.ptr 200 1 0),(3,true,.vec 250 v 0 out.length),(20,true,.d (.list (l.map bU))),(21,true,.d (.int .i64 l.length)),(22,true,.d (.int .i64 pre.length))],[A,B,⟨250,v,.vec 6 (out.map bU)⟩,⟨350,v3,D⟩,⟨550,0,T⟩,⟨700,0,U⟩]⟩ k)
 |[],pre,out,v,v3,D,E,O,H=>by
  have V:pre.length=l.length:=by rw[E];simp
  have:=I [(20,true,.d (.list (l.map bU))),(21,true,.d (.int .i64 l.length)),(22,true,.d (.int .i64 l.length)),(23,true,.d (.bool false))] out v v3 D;simp[df]at this⊢;rw[V,ah];simp[f99,this]
 |x::rest,pre,out,v,v3,D,E,O,H=>by
  have Z:pre.length<l.length:=by rw[E];simp
  have A':l[pre.length]=x:=by simp[E]
  have J:=H x (by simp);unfold wL at J;have ih:=λv v3 D=>MV l M A B A4 A5 T U k Q I rest (pre++[x]) (out++[dk x]) v v3 D (by simp[E]) (by simp[O]) (λy A0=>H y (by simp[A0]));have A1:IntKind.i64.wrap ((pre.length:Int)+1)=(pre.length:Int)+1:=az (by unfold bj;omega);have A2:out.length<=4611686018427387903:=by omega
  have A3:(out.length+1)*80<=140737488355328:=by omega
  have e:out++df (x::rest)=out++[dk x]++df rest:=by simp[df]
  rw[e,ah];generalize dk x=A7 at*;simp[f99,aJ]at ih J⊢;simp[Z,A',A4,A5,aJ,J,A1,A2,A3,ih]
theorem MW(l:List Ex)(M:l.length<100000000)(k:Kt)(Q:List Ex->bZ->Prop)
 (I:∀(Y:Env)(out:List Ex) v v3 D,Q out (k (.exit 0) ⟨19,aI,(3,true,.vec 250 v 0 out.length)::Y,[⟨250,v,.vec 6 (out.map bU)⟩,⟨350,v3,D⟩]⟩)):
 ∀(rest pre out:List Ex)(v v3:Nat)(D:aH),l=pre++rest->out.length=pre.length->(∀y∈rest,wL y)->
 Q (out++df rest) (aO ctx 100 (.loop (Code.at (bk f100) [1,1,0,1,0,0])) ⟨19,aI,[(3,true,.vec 250 v 0 out.length),(6,true,.d (.list (l.map bU))),(7,true,.d (.int .i64 l.length)),(8,true,.d (.int .i64 pre.length))],[⟨250,v,.vec 6 (out.map bU)⟩,⟨350,v3,D⟩]⟩ k)
 |[],pre,out,v,v3,D,E,O,H=>by
  have V:pre.length=l.length:=by rw[E];simp
  have:=I [(6,true,.d (.list (l.map bU))),(7,true,.d (.int .i64 l.length)),(8,true,.d (.int .i64 l.length)),(9,true,.d (.bool false))] out v v3 D;simp[df]at this⊢;rw[V,ah];simp[f100,this]
 |x::rest,pre,out,v,v3,D,E,O,H=>by
  have Z:pre.length<l.length:=by rw[E];simp
  have A':l[pre.length]=x:=by simp[E]
  have J:=H x (by simp);unfold wL at J;have ih:=λv v3 D=>MW l M k Q I rest (pre++[x]) (out++[dk x]) v v3 D (by simp[E]) (by simp[O]) (λy A0=>H y (by simp[A0]));have A1:IntKind.i64.wrap ((pre.length:Int)+1)=(pre.length:Int)+1:=az (by unfold bj;omega);have A2:out.length<=4611686018427387903:=by omega
  have A3:(out.length+1)*80<=140737488355328:=by omega
  have e:out++df (x::rest)=out++[dk x]++df rest:=by simp[df]
  rw[e,ah];generalize dk x=A7 at*;simp[f100,aJ]at ih J⊢;simp[Z,A',aJ,J,A1,A2,A3,ih]
theorem aaO(l:List Ex)(M:l.length<100000000)(H:∀y∈l,wL y):ai ctx 100 [.d (.list (l.map bU))] []=some (.ret (.d (.list ((df l).map bU))),[]):=by
 have A6:=λk Q I v v3 D=>MW l M k Q I l [] [] v v3 D rfl rfl H;rw[ahy (by simp)];simp[f100]at A6⊢;refine A6 _ (λout r=>out=df l->r=some (.ret (.d (.list ((df l).map bU))),[])) (λY out v v3 D h=>?_) _ _ _ rfl;subst h;simp
end Go.Am
end
section
namespace Go.Am
open Go Go.Proofs Go.Proofs.Tryz
variable [Inhabited b7]
set_option maxRecDepth 20000
set_option maxHeartbeats 4000000
theorem auq{α:Type}{l:List α}(h:l.length=2):∃a b,l=[a,b]:=by
 match l,h with
 |[a,b],_=>exact⟨a,b,rfl⟩
theorem aj6{op n line:Int}{name field:Tx}{sub:List Ex}(AD:sub.length<100000000)(A7:6<=op->sub.length=1\/sub.length=2)(A8:∀y∈sub,wL y)(A9:∀y∈sub,∀c,j8 (dk y)=some c->bj c.1):wL (.mk op n name field sub line):=by
 have A5:=λA B AE AF AG AH k Q AI v v3 AC=>MV sub AD A B AE AF AG AH k Q AI sub [] [] v v3 AC rfl rfl A8;unfold wL;have e:dk (.mk op n name field sub line)=lU (.mk op n name field (df sub) line):=by simp[dk]
 rw[e];have A1:∀y∈df sub,∀c,j8 y=some c->bj c.1:=by
  rw[nB];intro y D;obtain⟨z,J,rfl⟩:=abz.1 D;exact A9 z J
 have AA:6<=op->(df sub).length=1\/(df sub).length=2:=by rw[nB];simpa using A7
 obtain⟨R,H⟩:∃R,R=bU (lU (.mk op n name field (df sub) line)):=⟨_,rfl⟩;rw[<-H,amU (by simp)];simp[f99,aJ]at A5⊢;refine A5 _ _ ?_ ?_ _ _ _ (λout r=>out=df sub->r=some (.ret (.d R),[])) (λY out v v3 AC h=>?_) _ _ _ rfl
 ·rfl
 ·rfl
 subst h;generalize df sub=out at*;have Z:=CL (.mk op n name field out line);by_cases A':op<6
 ·have M:lU (.mk op n name field out line)=.mk op n name field out line:=by simp[lU,A']
  rw[M]at H;subst H;simp[f99,A',aJ]
 cases A2:j8 (.mk op n name field out line)with
 |some c=>
  have M:lU (.mk op n name field out line)=.mk op n name field out line:=by simp[lU,A2]
  rw[M]at H;subst H;rw[A2]at Z;simp[aJ]at Z;simp[f99,A',aJ,Z,vz]
 |none=>
  rw[A2]at Z;rcases AA (by omega)with AJ|AK
  ·obtain⟨y,rfl⟩:=Hj AJ;have D:=CL y;simp[aJ,vz]at Z D;simp[f99,A',aJ,Z];rw[ah];cases T:j8 y with
   |none=>
    have M:lU (.mk op n name field [y] line)=.mk op n name field [y] line:=by simp[lU,o6,T]
    rw[M]at H;subst H;rw[T]at D;simp at D;simp[aJ,D]
   |some c=>
    obtain⟨a,t⟩:=c;have AB:bj a:=A1 y (by simp) _ T;have E:=qw t;have I:=NS op a t AB;rw[T]at D;simp at D;have M:lU (.mk op n name field [y] line)=if (tv op a t).2.2≠0\/((tv op a t).2.1=false/\(tv op a t).1= -9223372036854775808)then .mk op n name field [y] line else m4 (tv op a t).1 (tv op a t).2.1 line:=by
     simp[lU,o6,T,A2,L3,A']
    rw[M]at H;generalize tv op a t=q at*;obtain⟨q1,q2,q3⟩:=q;have hm:=Yn q1 q2 line;simp only at H I;have A3:(q3≠0/\R=bU (.mk op n name field [y] line))\/(q3=0/\q2=false/\q1= -9223372036854775808/\R=bU (.mk op n name field [y] line))\/(∃e,R=bU e/\q3=0/\q2=false/\q1≠ -9223372036854775808/\ai ctx 168 [.d (.int .i64 q1),.d (.bool q2),.d (.int .i64 line)] []=some (.ret (.d (bU e)),[]))\/(∃e,R=bU e/\q3=0/\q2=true/\ai ctx 168 [.d (.int .i64 q1),.d (.bool q2),.d (.int .i64 line)] []=some (.ret (.d (bU e)),[])):=by
     by_cases O:q3≠0\/(q2=false/\q1= -9223372036854775808)
     ·rw[abf O]at H;rcases O with h|h
      ·exact .inl ⟨h,H⟩
      ·by_cases A4:q3=0
       ·exact .inr (.inl ⟨A4,h.1,h.2,H⟩)
       ·exact .inl ⟨A4,H⟩
     ·rw[aa4 O]at H;simp only[anS,not_and,Classical.not_not]at O;cases q2 with
      |true=>exact .inr (.inr (.inr ⟨_,H,O.1,rfl,hm⟩))
      |false=>exact .inr (.inr (.inl ⟨_,H,O.1,rfl,O.2 rfl,hm⟩))
    clear H hm A1 A9 A8 A5 A7 AA;cases t
    ·simp[ei]at E I;rcases A3 with ⟨U,H⟩|⟨rfl,rfl,rfl,H⟩|⟨e,rfl,rfl,rfl,V,hm⟩|⟨e,rfl,rfl,rfl,hm⟩
     ·subst H;simp[aJ,D,E,I,U];rw[ah];simp[aJ,D,E,I,U]
     ·subst H;simp[aJ,D,E,I];rw[ah];simp[aJ,D,E,I]
     ·simp[aJ]at hm;simp[aJ,D,E,I,V,hm];rw[ah];simp[aJ,D,E,I,V,hm]
     ·simp[aJ]at hm;simp[aJ,D,E,I,hm];rw[ah];simp[aJ,D,E,I,hm]
    ·simp[ei]at E I;rcases A3 with ⟨U,H⟩|⟨rfl,rfl,rfl,H⟩|⟨e,rfl,rfl,rfl,V,hm⟩|⟨e,rfl,rfl,rfl,hm⟩
     ·subst H;simp[aJ,D,E,I,U];rw[ah];simp[aJ,D,E,I,U]
     ·subst H;simp[aJ,D,E,I];rw[ah];simp[aJ,D,E,I]
     ·simp[aJ]at hm;simp[aJ,D,E,I,V,hm];rw[ah];simp[aJ,D,E,I,V,hm]
     ·simp[aJ]at hm;simp[aJ,D,E,I,hm];rw[ah];simp[aJ,D,E,I,hm]
  ·obtain⟨y,z,rfl⟩:=auq AK;have D:=CL y;have J:=CL z;simp[aJ,vz]at Z D J;simp[f99,A',aJ,Z];rw[ah];cases T:j8 y with
   |none=>
    have M:lU (.mk op n name field [y,z] line)=.mk op n name field [y,z] line:=by simp[lU,o6,T]
    rw[M]at H;subst H;rw[T]at D;simp at D;simp[aJ,D]
   |some c=>
    obtain⟨a,t⟩:=c;have AB:bj a:=A1 y (by simp) _ T;have E:=qw t;rw[T]at D;simp at D;cases A0:j8 z with
    |none=>
     have M:lU (.mk op n name field [y,z] line)=.mk op n name field [y,z] line:=by simp[lU,o6,T,A0]
     rw[M]at H;subst H;rw[A0]at J;simp at J E;simp[aJ,D,E];rw[ah];simp[aJ,J]
    |some d=>
     obtain⟨b,u⟩:=d;have AL:bj b:=A1 z (by simp) _ A0;have hu:=qw u;rw[A0]at J;simp at J;by_cases A6:t=u
     ·subst A6;have I:=NT op a b t AB AL;have M:lU (.mk op n name field [y,z] line)=if (xU op a b t).2.2≠0\/((xU op a b t).2.1=false/\(xU op a b t).1= -9223372036854775808)then .mk op n name field [y,z] line else m4 (xU op a b t).1 (xU op a b t).2.1 line:=by
       simp[lU,o6,T,A0,A2,L3,A']
      rw[M]at H;generalize xU op a b t=q at*;obtain⟨q1,q2,q3⟩:=q;have hm:=Yn q1 q2 line;simp only at H I;have A3:(q3≠0/\R=bU (.mk op n name field [y,z] line))\/(q3=0/\q2=false/\q1= -9223372036854775808/\R=bU (.mk op n name field [y,z] line))\/(∃e,R=bU e/\q3=0/\q2=false/\q1≠ -9223372036854775808/\ai ctx 168 [.d (.int .i64 q1),.d (.bool q2),.d (.int .i64 line)] []=some (.ret (.d (bU e)),[]))\/(∃e,R=bU e/\q3=0/\q2=true/\ai ctx 168 [.d (.int .i64 q1),.d (.bool q2),.d (.int .i64 line)] []=some (.ret (.d (bU e)),[])):=by
       by_cases O:q3≠0\/(q2=false/\q1= -9223372036854775808)
       ·rw[abf O]at H;rcases O with h|h
        ·exact .inl ⟨h,H⟩
        ·by_cases A4:q3=0
         ·exact .inr (.inl ⟨A4,h.1,h.2,H⟩)
         ·exact .inl ⟨A4,H⟩
       ·rw[aa4 O]at H;simp only[anS,not_and,Classical.not_not]at O;cases q2 with
        |true=>exact .inr (.inr (.inr ⟨_,H,O.1,rfl,hm⟩))
        |false=>exact .inr (.inr (.inl ⟨_,H,O.1,rfl,O.2 rfl,hm⟩))
      clear H hm A1 A9 A8 A5 A7 AA;cases t
      ·simp[ei]at E I;rcases A3 with ⟨U,H⟩|⟨rfl,rfl,rfl,H⟩|⟨e,rfl,rfl,rfl,V,hm⟩|⟨e,rfl,rfl,rfl,hm⟩
       ·subst H;simp[aJ,D,J,E,I,U];rw[ah];simp[aJ,D,J,E,I,U];rw[ah];simp[aJ,D,J,E,I,U]
       ·subst H;simp[aJ,D,J,E,I];rw[ah];simp[aJ,D,J,E,I];rw[ah];simp[aJ,D,J,E,I]
       ·simp[aJ]at hm;simp[aJ,D,J,E,I,V,hm];rw[ah];simp[aJ,D,J,E,I,V,hm];rw[ah];simp[aJ,D,J,E,I,V,hm]
       ·simp[aJ]at hm;simp[aJ,D,J,E,I,hm];rw[ah];simp[aJ,D,J,E,I,hm];rw[ah];simp[aJ,D,J,E,I,hm]
      ·simp[ei]at E I;rcases A3 with ⟨U,H⟩|⟨rfl,rfl,rfl,H⟩|⟨e,rfl,rfl,rfl,V,hm⟩|⟨e,rfl,rfl,rfl,hm⟩
       ·subst H;simp[aJ,D,J,E,I,U];rw[ah];simp[aJ,D,J,E,I,U];rw[ah];simp[aJ,D,J,E,I,U]
       ·subst H;simp[aJ,D,J,E,I];rw[ah];simp[aJ,D,J,E,I];rw[ah];simp[aJ,D,J,E,I]
       ·simp[aJ]at hm;simp[aJ,D,J,E,I,V,hm];rw[ah];simp[aJ,D,J,E,I,V,hm];rw[ah];simp[aJ,D,J,E,I,V,hm]
       ·simp[aJ]at hm;simp[aJ,D,J,E,I,hm];rw[ah];simp[aJ,D,J,E,I,hm];rw[ah];simp[aJ,D,J,E,I,hm]
     ·have M:lU (.mk op n name field [y,z] line)=.mk op n name field [y,z] line:=by simp[lU,o6,T,A0,L3,A6]
      rw[M]at H;subst H;cases t<;>cases u
      ·exact absurd rfl A6
      ·simp[ei]at E hu;simp[aJ,D,J,E,hu];rw[ah];simp[aJ,D,J,E,hu];rw[ah];simp[aJ,D,J,E,hu]
      ·simp[ei]at E hu;simp[aJ,D,J,E,hu];rw[ah];simp[aJ,D,J,E,hu];rw[ah];simp[aJ,D,J,E,hu]
      ·exact absurd rfl A6
end Go.Am
end
section
namespace Go.Am
open Go Go.Proofs
variable [Inhabited b7]
set_option maxRecDepth 20000
theorem aj7{vs:List Vr}{x:Ex}(D:bz x=true)(he:(aL vs x).e=0):∀y∈de x,(aL vs y).e=0:=by
 cases Hm D he with
 |num h=>simp
 |tt h=>simp
 |var T A' U=>simp
 |idx T A' U V M ty=>simpa using M
 |fld T U A5 D=>simp
 |one A0 V M ty=>simpa using M
 |two A0 V M A6 A1 ty A7=>simpa using ⟨M,A1⟩
mutual
theorem qx{vs:List Vr}:∀x:Ex,bz x=true->ff x=true->(aL vs x).e=0->wL x
 | .mk op n name field sub line,D,I,he=>by
  have J:=aj7 D he;simp only[qg]at J;have A8:=D;simp only[bz,Ds,aa8]at D;simp only[ff,Ds]at I;have H:=D.2.1;unfold dY at H;have Y:=D.2.2.2.2;have Z:=I.2;refine aj6 (by split at H<;>(try split at H)<;>omega) (λA2=>by
   by_cases h:op=4\/op=6\/op=7
   ·rw[abf h]at H;exact .inl H
   ·rw[aa4 h,abf (by omega)]at H;exact .inr H) (CM sub Y Z J) (λy E c A3=>?_)
  have O:=Gf y ((jH _).1 Y y E) ((wA _).1 Z y E) (J y E);have:=(XK A3 O.1 O.2.1 (by rw[O.2.2.1];exact J y E)).2;unfold bj;omega
theorem CM{vs:List Vr}:∀l:List Ex,bO l=true->eJ l=true->(∀y∈l,(aL vs y).e=0)->∀y∈l,wL y
 |[],_,_,_,y,E=>absurd E (afI)
 |x::r,D,I,he,y,E=>by
  simp only[bO,Ds]at D;simp only[eJ,Ds]at I;rcases abd.1 E with h|h
  ·rw[h];exact qx x D.1 I.1 (he x (by simp))
  ·exact CM r D.2 I.2 (λz A4=>he z (by simp[A4])) y h
end
theorem jK{x:Ex}(h:dZ x=true):wL x:=by
 obtain⟨op,n,name,field,sub,line⟩:=x;have h:(decide (op=0)&&(decide (n=0)&&decide (name.length+field.length+sub.length=0)))=true:=h;simp only[Ds,aa8]at h;have J:sub=[]:=abv (by omega);have A9:=h.1;subst J;exact aj6 (by simp) (λA2=>by omega) (λy E=>absurd E (afI)) (λy E=>absurd E (afI))
end Go.Am
end
section
namespace Go.Am
open Go Go.Proofs Go.Proofs.Tryz
variable [Inhabited b7]
set_option maxRecDepth 20000
set_option maxHeartbeats 1000000
def KG(b:List Sm):Prop:=ai ctx 60 [.d (.list (b.map cq))] []=some (.ret (.d (.list ((dX b).map cq))),[])
def KH(x:Sm):Prop:=ai ctx 99 [.d (bU (fe x))] []=some (.ret (.d (bU (dk (fe x)))),[])/\ai ctx 99 [.d (bU (eh x))] []=some (.ret (.d (bU (dk (eh x)))),[])/\ai ctx 100 [.d (.list ((cH x).map bU))] []=some (.ret (.d (.list ((df (cH x)).map bU))),[])/\(bL x).length<100000000/\∀b∈bL x,KG b
theorem Rs(l:List (List Sm))(U:l.length<100000000)(O V T:Nat)(Z:List D)(cs:List AV)(A3:∀v aj,cs.map (lC 400 v aj)=cs)(a9 A' A0:D)(k:Kt)(Q:List (List Sm)->bZ->Prop)
 (J:∀(Y:Env)(out:List (List Sm)) v,Q out (k (.exit 2) ⟨48,aI,(3,true,.vec 250 O 0 V)::(5,true,.ptr 350 T 0)::(6,true,.d (.list (out.map dz)))::(9,true,.d a9)::(10,true,.d A')::(11,true,.d A0)::Y,[⟨250,O,.vec 19 Z⟩,⟨350,T,.box cs⟩,⟨400,v,.dead⟩]⟩)):
 ∀(rest pre out:List (List Sm))(v:Nat),l=pre++rest->out.length=pre.length->(∀b∈rest,KG b)->
 Q (out++iV rest) (aO ctx 60 (.loop (Code.at (bk f60) [1,1,0,1,0,0,1,1,0,0,1,1,1,0,1,0,0])) ⟨48,aI,[(3,true,.vec 250 O 0 V),(5,true,.ptr 350 T 0),(6,true,.vec 400 v 0 out.length),(9,true,.d a9),(10,true,.d A'),(11,true,.d A0),(28,true,.d (.list (l.map dz))),(29,true,.d (.int .i64 l.length)),(30,true,.d (.int .i64 pre.length))],[⟨250,O,.vec 19 Z⟩,⟨350,T,.box cs⟩,⟨400,v,.vec 1 (out.map dz)⟩]⟩ k)
 |[],pre,out,v,E,A1,M=>by
  have A4:pre.length=l.length:=by rw[E];simp
  have:=J [(28,true,.d (.list (l.map dz))),(29,true,.d (.int .i64 l.length)),(30,true,.d (.int .i64 l.length)),(31,true,.d (.bool false))] out (v+1);simp[iV]at this⊢;rw[A4,ah];simp[f60,A3,this]
 |b::rest,pre,out,v,E,A1,M=>by
  have A5:pre.length<l.length:=by rw[E];simp
  have A6:l[pre.length]=b:=by simp[E]
  have A7:=M b (by simp);unfold KG at A7;have ih:=λv=>Rs l U O V T Z cs A3 a9 A' A0 k Q J rest (pre++[b]) (out++[dX b]) v (by simp[E]) (by simp[A1]) (λy A8=>M y (by simp[A8]));have A9:IntKind.i64.wrap ((pre.length:Int)+1)=(pre.length:Int)+1:=az (by unfold bj;omega);have AA:out.length<=4611686018427387903:=by omega
  have AB:(out.length+1)*24<=140737488355328:=by omega
  have e:out++iV (b::rest)=out++[dX b]++iV rest:=by simp[iV]
  rw[e,ah];generalize dX b=AM at*;simp[f60,dz]at ih A7⊢;simp[A5,A6,dz,A7,A9,AA,AB,ih]
theorem Rt(l:List Sm)(U:l.length<100000000)(k:Kt)(Q:List Sm->bZ->Prop)
 (J:∀(Y:Env)(out:List Sm) v v3 H v4 I,Q out (k (.exit 0) ⟨48,aI,(3,true,.vec 250 v 0 out.length)::Y,[⟨250,v,.vec 19 (out.map cq)⟩,⟨350,v3,H⟩,⟨400,v4,I⟩]⟩)):
 ∀(rest pre out:List Sm)(v v3:Nat)(H:aH)(v4:Nat)(I:aH),l=pre++rest->out.length=pre.length->(∀x∈rest,KH x)->
 Q (out++dX rest) (aO ctx 60 (.loop (Code.at (bk f60) [1,1,0,1,0,0])) ⟨48,aI,[(3,true,.vec 250 v 0 out.length),(9,true,.d (.list (l.map cq))),(10,true,.d (.int .i64 l.length)),(11,true,.d (.int .i64 pre.length))],[⟨250,v,.vec 19 (out.map cq)⟩,⟨350,v3,H⟩,⟨400,v4,I⟩]⟩ k)
 |[],pre,out,v,v3,H,v4,I,E,A1,M=>by
  have A4:pre.length=l.length:=by rw[E];simp
  have:=J [(9,true,.d (.list (l.map cq))),(10,true,.d (.int .i64 l.length)),(11,true,.d (.int .i64 l.length)),(12,true,.d (.bool false))] out v v3 H v4 I;simp[dX]at this⊢;rw[A4,ah];simp[f60,this]
 |x::rest,pre,out,v,v3,H,v4,I,E,A1,M=>by
  have A5:pre.length<l.length:=by rw[E];simp
  have A6:l[pre.length]=x:=by simp[E]
  obtain⟨AC,AD,AE,AG,AH⟩:=M x (by simp);have ih:=λv v3 H v4 I=>Rt l U k Q J rest (pre++[x]) (out++[tB x]) v v3 H v4 I (by simp[E]) (by simp[A1]) (λy A8=>M y (by simp[A8]));have A2:=λO V T Z cs A3 a9 A' A0 k Q J v=>Rs (bL x) AG O V T Z cs A3 a9 A' A0 k Q J (bL x) [] [] v rfl rfl AH;have A9:IntKind.i64.wrap ((pre.length:Int)+1)=(pre.length:Int)+1:=az (by unfold bj;omega);have AA:out.length<=4611686018427387903:=by omega
  have AB:(out.length+1)*288<=140737488355328:=by omega
  have e:out++dX (x::rest)=out++[tB x]++dX rest:=by simp[dX]
  have AI:cq (tB x)=.agg [.int .i64 (bK x),.str (iB x),.int .i64 (b6 (dk (fe x))),.int .i64 (iK (dk (fe x))),.str (dU (dk (fe x))),.str (ga (dk (fe x))),.list ((de (dk (fe x))).map bU),.int .i64 (kB (dk (fe x))),.int .i64 (b6 (dk (eh x))),.int .i64 (iK (dk (eh x))),.str (dU (dk (eh x))),.str (ga (dk (eh x))),.list ((de (dk (eh x))).map bU),.int .i64 (kB (dk (eh x))),.list ((df (cH x)).map bU),.list ((eF x).map n8),.list ((eu x).map .str),.list ((iV (bL x)).map dz),.int .i64 (lL x)]:=by
   obtain⟨op,name,to,val,conds,AN,fields,blocks,line⟩:=x;rw[fj];simp[tB,bK,iB,fe,eh,cH,eF,eu,bL,lL]
  rw[e,ah];have AJ:(cq (tB x)).size=19:=by rw[fj];simp
  generalize tB x=AK at*;generalize dk (fe x)=t at*;generalize dk (eh x)=w at*;generalize df (cH x)=AO at*;simp[f60]at ih A2⊢;simp[aJ]at AC AD AE;simp[A5,A6,fj x,aJ,AC,AD,AE,aw];refine A2 _ _ _ _ _ ?_ _ _ _ _ (λAF r=>AF=iV (bL x)->Q (out++AK::dX rest) r) (λY AF AP AL=>?_) _ rfl
  ·intro v aj;simp
  subst AL;simp[f60,A9,AA,AB,<-AI,AJ,ih]
theorem Es(l:List Sm)(U:l.length<100000000)(M:∀x∈l,KH x):KG l:=by
 have A2:=λk Q J v v3 H v4 I=>Rt l U k Q J l [] [] v v3 H v4 I rfl rfl M;unfold KG;rw[amJ (by simp)];simp[f60]at A2⊢;refine A2 _ (λout r=>out=dX l->r=some (.ret (.d (.list ((dX l).map cq))),[])) (λY out v v3 H v4 I h=>?_) _ _ _ _ _ rfl;subst h;simp
end Go.Am
end
section
namespace Go.Am
open Go Go.Proofs Go.Proofs.Tryz
variable [Inhabited b7]
set_option maxRecDepth 20000
theorem anv{vs:List Vr}{lp:Bool}{x:Sm}(H:jU x=true)(E:qq x=true)(h:(kU vs lp x).1=0)(D:BP x)(Z:∀(lp:Bool) (cs:List Ex),cW (bL x)=true->iP (bL x)=true->(gf vs lp cs (bL x)).1=0->pe (bL x)->∀b∈bL x,KG b):KH x:=by
 have AD:(wL (fe x)/\wL (eh x))/\(∀c∈cH x,wL c)/\∀b∈bL x,KG b:=by
  have AE:ff (fe x)=true/\ff (eh x)=true/\eJ (cH x)=true/\iP (bL x)=true:=by
   obtain⟨op,name,to,val,conds,A8,fields,blocks,line⟩:=x;simp only[qq,Ds]at E;exact⟨E.1,E.2.1,E.2.2.1,E.2.2.2.2⟩
  have A':pe (bL x):=by
   obtain⟨op,name,to,val,conds,A8,fields,blocks,line⟩:=x;simp only[BP]at D;exact D.2
  obtain⟨AF,A5,Y,A0⟩:=AE;cases Q2 H h with
  |asg I AA A6 ft AG U AH AB=>exact⟨⟨qx _ ft AF AG,qx _ U A5 AH⟩,by simp[cH],by simp[bL]⟩
  |cnd I M A9 V J A1 O hh=>
   exact⟨⟨jK I,jK M⟩,CM _ A9 Y (λc A7=>(kD (wF J hh c A7)).1),Z _ _ O A0 hh A'⟩
  |cas I U A2 J A1 AV O hh=>exact⟨⟨jK I,qx _ U A5 (kD A2).1⟩,by simp[cH],Z _ _ O A0 hh A'⟩
  |cnt D I M AA A6 AW AB AI AJ AK AL AM AN O hh=>
   simp only[cH,eJ,Ds]at Y;refine⟨⟨jK I,jK M⟩,?_,Z true [] (by simpa [bL,cW]using O) A0 (by simp[bL,gf,fJ,hh]) A'⟩;intro c A7;simp only[cH,abd,afI,an2]at A7;rcases A7 with rfl|rfl|rfl
   ·exact qx _ AI Y.1 (kD AJ).1
   ·exact qx _ AK Y.2.1 (kD AL).1
   ·exact qx _ AM Y.2.2.1 (kD AN).1
  |whl I U A2 O hh=>exact⟨⟨jK I,qx _ U A5 (kD A2).1⟩,by simp[cH],Z true [] (by simpa [bL,cW]using O) A0 (by simp[bL,gf,fJ,hh]) A'⟩
  |rep I U A2 O hh=>exact⟨⟨jK I,qx _ U A5 (kD A2).1⟩,by simp[cH],Z true [] (by simpa [bL,cW]using O) A0 (by simp[bL,gf,fJ,hh]) A'⟩
  |ext I M AX=>exact⟨⟨jK I,jK M⟩,by simp[cH],by simp[bL]⟩
  |ret I M=>exact⟨⟨jK I,jK M⟩,by simp[cH],by simp[bL]⟩
  |cal AY I M AA AB A9 AO AZ hh=>exact⟨⟨jK I,jK M⟩,CM _ A9 Y (Hr _ _ [] AO hh),by simp[bL]⟩
 have AC:(cH x).length<100000000/\(bL x).length<100000000:=by
  obtain⟨op,name,to,val,conds,A8,fields,blocks,line⟩:=x;simp only[BP]at D;exact⟨D.1.2.2.1.1,D.1.2.2.2.2.2⟩
 obtain⟨⟨AP,AQ⟩,AR,AS⟩:=AD;refine⟨?_,?_,?_,AC.2,AS⟩
 ·exact AP
 ·exact AQ
 ·exact aaO _ AC.1 AR
mutual
theorem aj8{vs:List Vr}:∀(x:Sm)(lp:Bool),jU x=true->qq x=true->(kU vs lp x).1=0->BP x->KH x
 | .mk op name to val conds A8 fields blocks line,lp,H,E,h,D=>anv H E h D (λlp cs V J A1 AT=>Et blocks lp cs V J A1 AT)
theorem zY{vs:List Vr}:∀(l:List Sm)(lp:Bool),eR l=true->iQ l=true->(eX vs lp l).1=0->mP l->∀x∈l,KH x
 |[],_,_,_,_,_,x,A3=>absurd A3 (afI)
 |y::r,lp,H,E,h,D,x,A3=>by
  simp only[eR,Ds]at H;simp only[iQ,Ds]at E;simp only[eX]at h;simp only[mP]at D;obtain⟨V,J⟩:=cn.1 h;rcases abd.1 A3 with A4|A3
  ·rw[A4];exact aj8 y lp H.1 E.1 V D.1
  ·exact zY r lp H.2 E.2 J D.2 x A3
theorem Et{vs:List Vr}:∀(l:List (List Sm))(lp:Bool)(cs:List Ex),cW l=true->iP l=true->(gf vs lp cs l).1=0->pe l->∀b∈l,KG b
 |[],_,_,_,_,_,_,b,T=>absurd T (afI)
 |y::r,lp,[],H,E,h,D,b,T=>by
  simp only[cW,Ds]at H;simp only[iP,Ds]at E;simp only[gf]at h;simp only[pe]at D;obtain⟨V,J⟩:=cn.1 h;rcases abd.1 T with A4|T
  ·rw[A4];exact Es y D.1.1 (zY y lp H.1 E.1 V D.1.2)
  ·exact Et r lp [] H.2 E.2 J D.2 b T
 |y::r,lp,c::cs,H,E,h,D,b,T=>by
  simp only[cW,Ds]at H;simp only[iP,Ds]at E;simp only[gf]at h;simp only[pe]at D;obtain⟨V,J⟩:=cn.1 h;obtain⟨J,A1⟩:=cn.1 J;rcases abd.1 T with A4|T
  ·rw[A4];exact Es y D.1.1 (zY y lp H.1 E.1 J D.1.2)
  ·exact Et r lp cs H.2 E.2 A1 D.2 b T
end
theorem ae5{p:Pg}{lp:Bool}(AU:p.body.length<100000000)(H:eR p.body=true)(E:iQ p.body=true)(h:(eX p.vars lp p.body).1=0)(D:mP p.body):ai ctx 30 [.d (pK p)] []=some (.ret (.d (pK (XG p))),[]):=by
 have A6:=Es p.body AU (zY p.body lp H E h D);unfold KG at A6;rw[amw (by simp)];simp[f30,A6,XG]
end Go.Am
end
section
namespace Go.Am
open Go Go.Proofs
variable [Inhabited b7]
set_option maxRecDepth 20000
structure MX(p:Pg):Prop where
 fit:qi p=true
 lit:iQ p.body=true
 Yq:(qj p).1=0
 lw:ek (pK p)<10000000
theorem Gz{p:Pg}(h:qi p=true):p.vars.length<=64/\(∀v∈p.vars,dM v=true)/\eR p.body=true:=by
 simp only[qi,Ds,adA,aa8]at h;exact h.2
theorem Dw{p:Pg}(h:(qj p).1=0):(eX p.vars false p.body).1=0:=(cn.1 h).2
theorem aj9{p:Pg}(h:MX p)(O:bn (dX p.body)<=64):Jf false (ag p.vars (dX p.body) (cx p.vars)).1:=by
 have E:=(IU h.fit h.lit h.Yq O).1;intro x H;by_cases I:0<=x.a
 ·exact⟨λ_=>I,λ_=>.inl I⟩
 ·refine⟨λT=>?_,λU=>?_⟩
  ·have:=(E.out x H (.inr T) (by omega)).1;omega
  ·rcases (E.out x H (.inl U) (by omega)).2 with e|⟨e,_⟩
   ·exact .inr (.inl e)
   ·cases e
theorem aaP{p:Pg}(h:MX p):ai ctx 30 [.d (pK p)] []=some (.ret (.d (pK (XG p))),[]):=by
 obtain⟨V,Y,A3⟩:=LM (p:=p) (by have:=h.lw;simp only[pK]at this;omega);exact ae5 (lp:=false) V (Gz h.fit).2.2 h.lit (Dw h.Yq) Y
def cdD:Option (List au×Int×Int)->D
 |none=>.agg [.list [],.int .i64 0,.int .i64 0]
 |some g=>.agg [.list (g.1.map dy),.int .i64 g.2.1,.int .i64 g.2.2]
def cdE:Option (List au×Int×Int)->Int
 |none=>13
 |some _=>0
theorem MY{p:Pg}(h:MX p):ai ctx 16 [.d (pK p)] []=some (.ret (.bg [.d (cdD (BT p)),.d (.int .i64 (cdE (BT p)))]),[]):=by
 obtain⟨f1,f2,f3⟩:=Gz h.fit;obtain⟨Z,A4,A5⟩:=UJ p h.lw;have J:=uh false p.body f3 h.lit (Dw h.Yq);have y:=ae0 (p:=p) (by omega) f2 J.1 J.2.2;have A':=zW p.vars (λv A0=>pH (f2 v A0));have A6:=B7 p.vars [] 0 (by omega) (cn.1 h.Yq).1;have A7:=oP (vs:=p.vars) (dX p.body) (cx p.vars);have q1:=Z (cx p.vars);have A1:=y ⟨[],cx p.vars,0,[],[]⟩ (anP _) A' ⟨by simp,by simp⟩ (by simp) (by simp only[abn];omega) (by simp only;omega) (by simp only[abn];omega);have A8:(0:Nat)+(ag p.vars (dX p.body) (cx p.vars)).1.length=(ag p.vars (dX p.body) (cx p.vars)).1.length:=by omega
 have A9:=rG (-2) (ag p.vars (dX p.body) (cx p.vars)).1 0;have A2:=aaG p (by omega) f2 (aaP h) _ A1 (by simp[Mk.aS];omega) (by simp[Mk.aS];omega) (by
  intro i hi;simp only[Mk.aS,afJ,aa9,abn,nU]at hi⊢;obtain⟨j,e,AA⟩:=B3 _ _ _ i hi;exact⟨j,e,by omega⟩)
 rw[A2];simp only[Mk.aS,Mk.cI,Mk.put,afJ,aa9,abn,nU,abb,Gj,afO];unfold BT;simp only
 by_cases M:4096<(ag p.vars (dX p.body) (cx p.vars)).1.length+1\/64<bn (dX p.body)
 ·rw[abf M,abf (by omega)];rfl
 ·rw[aa4 M,aa4 (by omega),ae2 (aj9 h (by omega))];rfl
end Go.Am
end
section
namespace Go.Am
open Go Go.Proofs Go.Proofs.Tryz
variable [Inhabited b7]
set_option maxRecDepth 100000
def Yr:Tx:=[80,82,79,71,82,65,77,32,112,32,86,65,82,32,97,32,58,32,73,78,84,59,32,69,78,68,95,86,65,82,32,97,32,58,61,32,97,32,43,32,49,59,32,69,78,68,95,80,82,79,71,82,65,77]
def MZ:List fR:=[⟨2,[80,82,79,71,82,65,77],0,1,1⟩,⟨1,[112],0,1,9⟩,⟨2,[86,65,82],0,1,11⟩,⟨1,[97],0,1,15⟩,⟨4,[58],0,1,17⟩,⟨2,[73,78,84],0,1,19⟩,⟨4,[59],0,1,22⟩,⟨2,[69,78,68,95,86,65,82],0,1,24⟩,
 ⟨1,[97],0,1,32⟩,⟨4,[58,61],0,1,34⟩,⟨1,[97],0,1,37⟩,⟨4,[43],0,1,39⟩,⟨3,[49],1,1,41⟩,⟨4,[59],0,1,42⟩,⟨2,[69,78,68,95,80,82,79,71,82,65,77],0,1,44⟩,⟨0,[],0,1,55⟩]
theorem UK:G9 Yr=(MZ,0,⟨0,[],0,0,0⟩):=by kernel_rfl
def xy:Pg:=⟨[112],[⟨[97],1,0,false,0,0,0,1⟩],[.mk 1 [] (.mk 3 0 [97] [] [] 1) (.mk 8 0 [] [] [.mk 3 0 [97] [] [] 1,.mk 1 1 [] [] [] 1] 1) [] [] [] [] 1]⟩
theorem Ys:ai ctx 94 [.ptr 0 0 0] [.box [.d (.list (MZ.map rr)),.d (.int .i64 0),.d (.int .i64 0),.vec 1 0 0 0],.vec 8 []]=
 some (.ret (.agg [.d (.str xy.name),.vec 1 1 0 (xy.vars.map bN).length,.d (.list (xy.body.map cq))]),[(0,.box [.d (.list (MZ.map rr)),.d (.int .i64 15),.d (.int .i64 0),.vec 1 1 0 (xy.vars.map bN).length]),(1,.vec 8 (xy.vars.map bN))]):=bI 300 (by kernel_rfl)
theorem ae6:MX xy:=⟨by kernel_rfl,by kernel_rfl,by kernel_rfl,by decide+kernel⟩
theorem aaQ:BT xy=some ([ins 11 0 0 0 0,ins 2 0 0 0 0,ins 1 0 0 1 0,ins 8 0 8 0 0,ins 6 0 0 0 0,ins 15 0 0 0 0],1,1):=by kernel_rfl
theorem aka:ai ctx 23 [] []=some (.ret (.d (.bool true)),[]):=by
 have E:=XF UK Ys;have D:=MY ae6;rw[aaQ]at D;simp only[pK]at D;generalize xy.name=a at*;generalize xy.body.map cq=c at*;generalize xy.vars.map bN=R at*;rw[amv (by simp)];simp[Yr]at E;simp[cdD,cdE,ins]at D;simp[f23,E,D]
end Go.Am
end
section
namespace Go.Am
open Go Go.Proofs
variable [Inhabited b7]
set_option maxRecDepth 20000
theorem sR{P:Program}{n:Nat}{t:TypeId}{d:D}(h:typed P n t d):∃m,n=m+1:=by
 cases n with
 |zero=>exact h.elim
 |succ m=>exact⟨m,rfl⟩
theorem mA{P:Program}{n:Nat}{t:TypeId}{d:D}(J:P.underlying t=some (.int .i64))(h:typed P n t d):∃z,d=.int .i64 z/\Hh z=true:=by
 obtain⟨m,rfl⟩:=sR h;obtain⟨z,rfl,hw⟩:=Xx J h;refine⟨z,rfl,?_⟩;have I:bj z:=by
  simp[Lit.wf]at hw;unfold bj;have AA:IntKind.i64.min= -9223372036854775808:=by decide
  have AB:IntKind.i64.max=9223372036854775807:=by decide
  simp only[AA,AB]at hw;omega
 unfold bj at I;unfold Hh;simp only[aa8];exact I
theorem ae7{P:Program}{n:Nat}{t:TypeId}{d:D}(J:P.underlying t=some .bool)(h:typed P n t d):∃b,d=.bool b:=by
 obtain⟨m,rfl⟩:=sR h;exact Up J h
theorem pN{P:Program}{n:Nat}{t:TypeId}{d:D}(J:P.underlying t=some .string)(h:typed P n t d):∃s,d=.str s:=by
 obtain⟨m,rfl⟩:=sR h;obtain⟨s,rfl,_⟩:=LF J h;exact⟨s,rfl⟩
theorem mm{P:Program}{n:Nat}{t e:TypeId}{d:D}(J:P.underlying t=some (.slice e))(h:typed P n t d):∃xs m,m<n/\d=.list xs/\∀x∈xs,typed P m e x:=by
 obtain⟨m,rfl⟩:=sR h;obtain⟨xs,rfl,_,E⟩:=NP J h;exact⟨xs,m,by omega,rfl,E⟩
theorem wO{P:Program}{n:Nat}{t:TypeId}{d:D}{A5:Array Field}(J:P.underlying t=some (.struct A5))(h:typed P n t d):∃M m,m<n/\d=.agg M/\CC P m A5.toList M:=by
 obtain⟨m,rfl⟩:=sR h;obtain⟨M,rfl,AC⟩:=LG J h;exact⟨M,m,by omega,rfl,AC⟩
theorem jb{α:Type}{f:α->D}{Q:α->Prop}:∀{xs:List D},(∀x∈xs,∃r,x=f r/\Q r)->∃rs:List α,xs=rs.map f/\∀r∈rs,Q r
 |[],_=>⟨[],rfl,λr h=>by cases h⟩
 |x::xs,h=>by
  obtain⟨r,rfl,AD⟩:=h x (by simp);obtain⟨rs,rfl,AE⟩:=jb (xs:=xs) (λy H=>h y (by simp[H]));exact⟨r::rs,rfl,λy H=>by
   rcases abd.1 H with rfl|H
   ·exact AD
   ·exact AE y H⟩
theorem Eu:∀{l:List Ex},(∀x∈l,ff x=true)->eJ l=true
 |[],_=>by simp[eJ]
 |x::r,h=>by simp only[eJ,Ds];exact⟨h x (by simp),Eu λy H=>h y (by simp[H])⟩
theorem Ew:∀{l:List Sm},(∀x∈l,qq x=true)->iQ l=true
 |[],_=>by simp[iQ]
 |x::r,h=>by simp only[iQ,Ds];exact⟨h x (by simp),Ew λy H=>h y (by simp[H])⟩
theorem M0:∀{l:List (List Sm)},(∀x∈l,iQ x=true)->iP l=true
 |[],_=>by simp[iP]
 |x::r,h=>by simp only[iP,Ds];exact⟨h x (by simp),M0 λy H=>h y (by simp[H])⟩
theorem Ey:∀(n:Nat)(x:D),typed Tryz.prog n 114 x->∃e:Ex,x=bU e/\ff e=true:=by
 intro n;induction n using Nat.strongRecOn with
 |ind n ih=>
 intro x h;obtain⟨M,m,hm,rfl,A0,d0,O,⟨A1,d1,T,⟨A2,d2,I,⟨A6,d3,U,⟨A7,d4,V,⟨A8,d5,Y,rfl,rfl⟩,rfl⟩,rfl⟩,rfl⟩,rfl⟩,rfl⟩:=wO Tryz.underlying114 h;obtain⟨op,rfl,_⟩:=mA Tryz.underlying3 O;obtain⟨k,rfl,AF⟩:=mA Tryz.underlying2 T;obtain⟨name,rfl⟩:=pN Tryz.underlying9 I;obtain⟨field,rfl⟩:=pN Tryz.underlying9 U;obtain⟨xs,q,A9,rfl,Z⟩:=mm Tryz.underlying112 V;obtain⟨line,rfl,_⟩:=mA Tryz.underlying3 Y;obtain⟨l,rfl,A'⟩:=jb (f:=bU) (Q:=λe=>ff e=true) (λx E=>ih q (by omega) x (Z x E));exact⟨.mk op k name field l line,by rw[Jl];simp[x8,uf,D.cells],by
  simp only[ff,Ds];exact⟨AF,Eu A'⟩⟩
theorem UL{n:Nat}{x:D}(h:typed Tryz.prog n 26 x):∃l:List Int,x=n8 l/\l.all Hh=true:=by
 obtain⟨xs,q,A9,rfl,Z⟩:=mm Tryz.underlying26 h;obtain⟨l,rfl,A'⟩:=jb (f:=λn=>D.int .i64 n) (Q:=λe=>Hh e=true) (λx E=>mA Tryz.underlying2 (Z x E));exact⟨l,rfl,adA.2 A'⟩
theorem aaR:∀(n:Nat)(x:D),typed Tryz.prog n 119 x->∃e:Sm,x=cq e/\qq e=true:=by
 intro n;induction n using Nat.strongRecOn with
 |ind n ih=>
 intro x h;obtain⟨M,m,hm,rfl,A0,d0,O,⟨A1,d1,T,⟨A2,d2,I,⟨A6,d3,U,⟨A7,d4,V,⟨A8,d5,Y,⟨AG,d6,A3,⟨AH,d7,A4,⟨AW,d8,AI,rfl,rfl⟩,rfl⟩,rfl⟩,rfl⟩,rfl⟩,rfl⟩,rfl⟩,rfl⟩,rfl⟩:=wO Tryz.underlying119 h;obtain⟨op,rfl,_⟩:=mA Tryz.underlying3 O;obtain⟨name,rfl⟩:=pN Tryz.underlying9 T;obtain⟨to,rfl,AJ⟩:=Ey _ _ I;obtain⟨val,rfl,AK⟩:=Ey _ _ U;obtain⟨AX,AY,AZ,rfl,AL⟩:=mm Tryz.underlying112 V;obtain⟨A_,Aa,Ab,rfl,AM⟩:=mm Tryz.underlying115 Y;obtain⟨Ac,Ad,Ae,rfl,AN⟩:=mm Tryz.underlying116 A3;obtain⟨Af,Ag,Ah,rfl,AO⟩:=mm Tryz.underlying117 A4;obtain⟨line,rfl,_⟩:=mA Tryz.underlying3 AI;obtain⟨conds,rfl,AP⟩:=jb (f:=bU) (Q:=λe=>ff e=true) (λx E=>Ey _ _ (AL x E));obtain⟨AQ,rfl,AR⟩:=jb (f:=n8) (Q:=λl=>l.all Hh=true) (λx E=>UL (AM x E));obtain⟨fields,rfl⟩:=xw (f:=D.str) (λx E=>pN Tryz.underlying9 (AN x E));obtain⟨blocks,rfl,AS⟩:=jb (f:=λb:List Sm=>D.list (b.map cq)) (Q:=λb=>iQ b=true) (λx E=>by
  obtain⟨xs,q,A9,rfl,Z⟩:=mm Tryz.underlying23 (AO x E);obtain⟨l,rfl,A'⟩:=jb (f:=cq) (Q:=λe=>qq e=true) (λx E=>ih q (by omega) x (Z x E));exact⟨l,rfl,Ew A'⟩)
 refine⟨.mk op name to val conds AQ fields blocks line,?_,?_⟩
 ·simp[cq,uf,Cv,D.cells,Jl]
 ·simp only[qq,Ds];exact⟨AJ,AK,Eu AP,adA.2 AR,M0 AS⟩
theorem aaS{n:Nat}{x:D}(h:typed Tryz.prog n 64 x):∃v:Vr,x=bN v:=by
 obtain⟨M,m,hm,rfl,A0,d0,O,⟨A1,d1,T,⟨A2,d2,I,⟨A6,d3,U,⟨A7,d4,V,⟨A8,d5,Y,⟨AG,d6,A3,⟨AH,d7,A4,rfl,rfl⟩,rfl⟩,rfl⟩,rfl⟩,rfl⟩,rfl⟩,rfl⟩,rfl⟩:=wO Tryz.underlying64 h;obtain⟨name,rfl⟩:=pN Tryz.underlying9 O;obtain⟨ty,rfl,_⟩:=mA Tryz.underlying3 T;obtain⟨sec,rfl,_⟩:=mA Tryz.underlying3 I;obtain⟨arr,rfl⟩:=ae7 Tryz.underlying4 U;obtain⟨lo,rfl,_⟩:=mA Tryz.underlying2 V;obtain⟨hi,rfl,_⟩:=mA Tryz.underlying2 Y;obtain⟨init,rfl,_⟩:=mA Tryz.underlying2 A3;obtain⟨line,rfl,_⟩:=mA Tryz.underlying3 A4;exact⟨⟨name,ty,sec,arr,lo,hi,init,line⟩,rfl⟩
theorem aaT{n:Nat}{x:D}(h:typed Tryz.prog n 25 x):∃p:Pg,x=.agg [.str p.name,.list (p.vars.map bN),.list (p.body.map cq)]/\iQ p.body=true:=by
 obtain⟨M,m,hm,rfl,A0,d0,O,⟨A1,d1,T,⟨A2,d2,I,rfl,rfl⟩,rfl⟩,rfl⟩:=wO Tryz.underlying25 h;obtain⟨name,rfl⟩:=pN Tryz.underlying9 O;obtain⟨Ai,q1,Aj,rfl,AT⟩:=mm Tryz.underlying22 T;obtain⟨Ak,q2,Al,rfl,AU⟩:=mm Tryz.underlying23 I;obtain⟨vars,rfl⟩:=xw (f:=bN) (λx E=>aaS (AT x E));obtain⟨body,rfl,AV⟩:=jb (f:=cq) (Q:=λe=>qq e=true) (λx E=>aaR _ _ (AU x E));exact⟨⟨name,vars,body⟩,rfl,Ew AV⟩
end Go.Am
end
section
namespace Go.Am
open Go Go.Proofs Go.Proofs.Tryz
variable [Inhabited b7]
set_option maxRecDepth 20000
theorem GA(s:Tx)(l:List Vr)(J:l.length<1000000)(k:Kt)(RF:Option Vr->bZ)
 (D:∀w v,k .ret ⟨25,aI,[(4,true,.ptr 300 v 0),(5,true,.d (.bool true))],[⟨300,v,iL w⟩]⟩=RF (some w))
 (E:∀(v:Nat)(b c:AV),k (.exit 0) ⟨25,aI,[(0,true,.d (.list (l.map bN))),(1,true,.d (.str s)),(4,true,.ptr 300 v 0),(6,true,b),(10,true,c)],[⟨300,v,iL tA⟩]⟩=RF none):∀(rest pre:List Vr)(v:Nat),l=pre++rest->
 aO ctx 38 (.loop (Code.at (bk f38) [1,0,1,0,0])) ⟨25,aI,[(0,true,.d (.list (l.map bN))),(1,true,.d (.str s)),(4,true,.ptr 300 v 0),(6,true,.d (.int .i64 pre.length))],[⟨300,v,iL tA⟩]⟩ k=RF (bq rest s)
 |[],pre,v,H=>by
  have V:pre.length=l.length:=by rw[H];simp
  simp only[iL,tA]at E;rw[V,ah];simp[f38,E,bq,tA]
 |x::rest,pre,v,H=>by
  have T:pre.length<l.length:=by rw[H];simp
  have U:l[pre.length]=x:=by simp[H]
  have ih:=GA s l J k RF D E rest (pre++[x]) v (by simp[H]);have M:IntKind.i64.wrap ((pre.length:Int)+1)=(pre.length:Int)+1:=az (by unfold bj;omega);have D:=D x;simp only[iL]at D;rw[ah];by_cases O:x.name=s
  ·simp only[O]at D;simp[f38,tA];simp[T,U,bN,eV,O,D,bq]
  ·simp[f38,tA]at ih⊢;simp[T,U,bN,eV,O,M,ih,bq]
theorem nV{vs:List Vr}(J:vs.length<1000000)(s:Tx):ai ctx 38 [.d (.list (vs.map bN)),.d (.str s)] []=some (.ret (.bg [.d (bN (fV vs s)),.d (.bool (bq vs s).isSome)]),[]):=by
 have h:=λk RF D E v=>GA s vs J k RF D E vs [] v rfl;rw[amB (by simp)];unfold fV;simp[f38,tA]at h⊢;rw[h _ (λo=>some (.ret (.bg [.d (bN (o.getD tA)),.d (.bool o.isSome)]),[]))]
 ·simp[tA]
 ·intro w v;simp[bN,eV]
 ·intro v b c;simp[bN,eV,tA]
theorem Rv(k:Int):ai ctx 52 [.d (.int .i64 k)] []=some (.ret (.d (.list ((bJ k).map dj))),[]):=by
 by_cases h:10<=k/\k<=31
 ·have:k=10\/k=11\/k=12\/k=13\/k=14\/k=15\/k=16\/k=17\/k=18\/k=19\/k=20\/k=21\/k=22\/k=23\/k=24\/k=25\/k=26\/k=27\/k=28\/k=29\/k=30\/k=31:=by omega
  rcases this with h|h|h|h|h|h|h|h|h|h|h|h|h|h|h|h|h|h|h|h|h|h<;>subst h
  ·exact atM
  ·exact atN
  ·exact atO
  ·exact atP
  ·exact atQ
  ·exact atS
  ·exact atT
  ·exact atU
  ·exact atV
  ·exact atW
  ·exact atX
  ·exact atY
  ·exact atZ
  ·exact at0
  ·exact at1
  ·exact at3
  ·exact at4
  ·exact at5
  ·exact at6
  ·exact at7
  ·exact aua
  ·exact aub
 ·have Y:bJ k=[]:=by
   have e:∀n:Int,10<=n->n<=31->¬n=k:=λn a b c=>h (by omega);unfold bJ Lj;simp only[tV];rw[aa4 (e _ (by decide) (by decide)),aa4 (e _ (by decide) (by decide)),aa4 (e _ (by decide) (by decide)),aa4 (e _ (by decide) (by decide)),aa4 (e _ (by decide) (by decide)),aa4 (e _ (by decide) (by decide)),aa4 (e _ (by decide) (by decide)),aa4 (e _ (by decide) (by decide)),aa4 (e _ (by decide) (by decide)),aa4 (e _ (by decide) (by decide)),aa4 (e _ (by decide) (by decide)),aa4 (e _ (by decide) (by decide)),aa4 (e _ (by decide) (by decide)),aa4 (e _ (by decide) (by decide)),aa4 (e _ (by decide) (by decide)),aa4 (e _ (by decide) (by decide)),aa4 (e _ (by decide) (by decide)),aa4 (e _ (by decide) (by decide)),aa4 (e _ (by decide) (by decide)),aa4 (e _ (by decide) (by decide)),aa4 (e _ (by decide) (by decide))]
  rw[Y];rw[amG (by simp)];by_cases D:k<10
  ·simp[f52,D]
  ·have E:31<k:=by omega
   simp[f52,D,E]
theorem aaU{w:Vr}(Z:w.arr=true->0<=w.lo/\w.lo<=w.hi/\w.hi<=255):ai ctx 39 [.d (.agg (eV w))] []=some (.ret (.d (.int .i64 (bV w))),[]):=by
 have y:=Rv w.ty;rw[amC (by simp)];unfold bV;cases I:w.arr with
 |true=>
  have A0:=Z I;have M:IntKind.i64.wrap (w.hi-w.lo)=w.hi-w.lo:=az (by unfold bj;omega);have A':IntKind.i64.wrap (w.hi-w.lo+1)=w.hi-w.lo+1:=az (by unfold bj;omega);simp[f39,eV,I,M,A']
 |false=>
  by_cases E:2<w.ty
  ·simp[f39,eV,I,E,y]
  ·simp[f39,eV,I,E]
def Dx(p:Pn):aH:=.box [.d (.str p.name),.d (.int .i64 p.ty),.d (.bool p.Oz)]
theorem IW(s:Tx)(l:List Pn)(U:l.length<1000000)(k:Kt)(RF:Option Pn->bZ)
 (D:∀w v,k .ret ⟨32,aI,[(4,true,.ptr 300 v 0),(5,true,.d (.bool true))],[⟨300,v,Dx w⟩]⟩=RF (some w))
 (H:∀(v:Nat)(b c:AV),k (.exit 0) ⟨32,aI,[(1,true,.d (.str s)),(4,true,.ptr 300 v 0),(6,true,.d (.list (l.map dj))),(7,true,b),(13,true,c)],[⟨300,v,Dx wm⟩]⟩=RF none):∀(rest pre:List Pn)(v:Nat),l=pre++rest->
 aO ctx 179 (.loop (Code.at (bk f179) [1,1,0,1,0,0])) ⟨32,aI,[(1,true,.d (.str s)),(4,true,.ptr 300 v 0),(6,true,.d (.list (l.map dj))),(7,true,.d (.int .i64 pre.length))],[⟨300,v,Dx wm⟩]⟩ k=RF (zJ rest s)
 |[],pre,v,I=>by
  have Z:pre.length=l.length:=by rw[I];simp
  simp only[Dx,wm]at H;rw[Z,ah];simp[f179,Dx,H,zJ,wm]
 |x::rest,pre,v,I=>by
  have J:pre.length<l.length:=by rw[I];simp
  have V:l[pre.length]=x:=by simp[I]
  have ih:=IW s l U k RF D H rest (pre++[x]) v (by simp[I]);have Y:IntKind.i64.wrap ((pre.length:Int)+1)=(pre.length:Int)+1:=az (by unfold bj;omega);have D:=D x;simp only[Dx]at D;rw[ah];by_cases M:s=[]
  ·simp only[M]at ih⊢;simp[f179,Dx,wm]at ih⊢;simp[J,Y,ih,zJ]
  ·by_cases O:x.name=s
   ·simp only[O]at D;simp[f179,Dx,wm];simp[J,V,dj,O,M,D,zJ]
   ·simp[f179,Dx,wm]at ih⊢;simp[J,V,dj,O,M,Y,ih,zJ]
theorem Yt(q:Int)(s:Tx):ai ctx 179 [.d (.int .i64 q),.d (.str s)] []=some (.ret (.bg [.d (dj (fP q s)),.d (.bool (mi q s).isSome)]),[]):=by
 have U:=BM q;have y:=Rv q;have h:=λk RF D H v=>IW s (bJ q) (by omega) k RF D H (bJ q) [] v rfl;rw[ahR (by simp)];unfold fP mi;simp[f179,Dx,wm]at h⊢;simp[y];rw[h _ (λo=>some (.ret (.bg [.d (dj (o.getD wm)),.d (.bool o.isSome)]),[]))]
 ·simp[wm]
 ·intro w v;simp[dj]
 ·intro v b c;simp[dj,wm]
def eN(t:Te):AV:=.bg [.d (.int .i64 t.t),.d (.agg [.int .i64 t.e,.int .i64 t.line])]
def RT(vs:List Vr)(x:Ex):Prop:=ai ctx 109 [.d (.list (vs.map bN)),.d (.agg [.int .i64 (b6 x),.int .i64 (iK x),.str (dU x),.str (ga x),.list ((de x).map bU),.int .i64 (kB x)])] []=some (.ret (eN (aL vs x)),[])
def dJ(e:EL):AV:=.d (.agg [.int .i64 e.1,.int .i64 e.2])
def GB(vs:List Vr)(x:Ex)(t:Int):EL:=if (aL vs x).e=0/\(aL vs x).t≠t then (10,kB x)else ((aL vs x).e,(aL vs x).line)
theorem Ez{vs:List Vr}{x:Ex}(h:RT vs x):ai ctx 180 [.d (.list (vs.map bN)),.d (.agg [.int .i64 (b6 x),.int .i64 (iK x),.str (dU x),.str (ga x),.list ((de x).map bU),.int .i64 (kB x)])] []=some (.ret (dJ (GB vs x 1)),[]):=by
 unfold RT at h;rw[ahS (by simp)];unfold GB;generalize aL vs x=T at*;by_cases E:T.e=0
 ·by_cases D:T.t=1
  ·simp[f180,eN,dJ,E,D,h]
  ·simp[f180,eN,dJ,E,D,h]
 ·simp[f180,eN,dJ,E,h]
theorem rH{vs:List Vr}{x:Ex}(t:Int)(h:RT vs x):ai ctx 110 [.d (.list (vs.map bN)),.d (.agg [.int .i64 (b6 x),.int .i64 (iK x),.str (dU x),.str (ga x),.list ((de x).map bU),.int .i64 (kB x)]),.d (.int .i64 t)] []=some (.ret (dJ (GB vs x t)),[]):=by
 unfold RT at h;rw[ahA (by simp)];unfold GB;generalize aL vs x=T at*;by_cases E:T.e=0
 ·by_cases D:T.t=t
  ·simp[f110,eN,dJ,E,D,h]
  ·simp[f110,eN,dJ,E,D,h]
 ·simp[f110,eN,dJ,E,h]
section
variable {vs:List Vr} (M:vs.length<1000000) (A1:∀v∈vs,dM v=true)
theorem akb{op nn line:Int}{name field:Tx}{sub:List Ex}(h:op=1\/op=2):RT vs (.mk op nn name field sub line):=by
 unfold RT;rw[eW (by simp)];have e:aL vs (.mk op nn name field sub line)=fm op:=by
  unfold aL;rw[abf h]
 rw[e];rcases h with h|h<;>subst h<;>simp[f109,eN,fm]
include M in
theorem Yu{nn line:Int}{name field:Tx}{sub:List Ex}:RT vs (.mk 5 nn name field sub line):=by
 unfold RT;have D:=nV (vs:=vs) M name;rw[eW (by simp)];have e:aL vs (.mk 5 nn name field sub line)=(match bq vs name with
  |none=>cL 9 line
  |some v=>(if v.ty<=2 then cL 10 line else match mi v.ty field with
   |none=>cL 9 line
   |some p=>fm p.ty)):=by
  unfold aL;rw[aa4 (by decide),abf (by decide)];rfl
 rw[e];cases J:bq vs name with
 |none=>
  simp[J,fV,bN,eV,tA]at D;simp[f109,eN,cL,D,aw]
 |some v=>
  have Y:=Yt v.ty field;simp[J,fV,bN,eV]at D;by_cases E:v.ty<=2
  ·simp[f109,eN,cL,D,aw,E]
  ·cases Z:mi v.ty field with
   |none=>
    simp[Z,fP,dj,wm]at Y;simp[f109,eN,cL,D,aw,E,Y,Z]
   |some p=>
    simp[Z,fP,dj]at Y;simp[f109,eN,fm,D,aw,E,Y,Z]
include M in
theorem ae8{nn line:Int}{name field:Tx}{v:Vr}{y:Ex}{T:Te}(J:bq vs name=some v)(H:v.arr=true)(E:¬2<v.ty)(O:RT vs y)(V:aL vs y=T)(I:T.e=0)(U:T.t=1):ai ctx 109 [.d (.list (vs.map bN)),.d (.agg [.int .i64 4,.int .i64 nn,.str name,.str field,.list ([y].map bU),.int .i64 line])] []=some (.ret (eN (fm v.ty)),[]):=by
 have D:=nV (vs:=vs) M name;have hi:=Ez O;unfold GB dJ at hi;rw[V]at hi;clear V O;rw[eW (by simp)];simp[J,fV,bN,eV]at D;simp[I,U]at hi;simp[f109,eN,fm,cL,D,aw,H,E,aJ,hi,I,U]
include M in
theorem ae9{nn line:Int}{name field:Tx}{v:Vr}{y:Ex}{T:Te}(J:bq vs name=some v)(H:v.arr=true)(E:¬2<v.ty)(O:RT vs y)(V:aL vs y=T)(I:T.e=0)(U:¬T.t=1):ai ctx 109 [.d (.list (vs.map bN)),.d (.agg [.int .i64 4,.int .i64 nn,.str name,.str field,.list ([y].map bU),.int .i64 line])] []=some (.ret (eN (cL 10 (kB y))),[]):=by
 have D:=nV (vs:=vs) M name;have hi:=Ez O;unfold GB dJ at hi;rw[V]at hi;clear V O;rw[eW (by simp)];simp[J,fV,bN,eV]at D;simp[I,U]at hi;simp[f109,eN,fm,cL,D,aw,H,E,aJ,hi,I,U]
include M in
theorem afa{nn line:Int}{name field:Tx}{v:Vr}{y:Ex}{T:Te}(J:bq vs name=some v)(H:v.arr=true)(E:¬2<v.ty)(O:RT vs y)(V:aL vs y=T)(I:¬T.e=0):ai ctx 109 [.d (.list (vs.map bN)),.d (.agg [.int .i64 4,.int .i64 nn,.str name,.str field,.list ([y].map bU),.int .i64 line])] []=some (.ret (eN (cL T.e T.line)),[]):=by
 have D:=nV (vs:=vs) M name;have hi:=Ez O;unfold GB dJ at hi;rw[V]at hi;clear V O;rw[eW (by simp)];simp[J,fV,bN,eV]at D;simp[I]at hi;simp[f109,eN,fm,cL,D,aw,H,E,aJ,hi,I]
include M in
theorem afb{op nn line:Int}{name field:Tx}{sub:List Ex}(h:op=3\/op=4)(A':op=4->∃y,sub=[y]/\RT vs y):RT vs (.mk op nn name field sub line):=by
 unfold RT;have D:=nV (vs:=vs) M name;have e:aL vs (.mk op nn name field sub line)=(match bq vs name with
  |none=>cL 9 line
  |some v=>if v.arr≠decide (op=4)\/2<v.ty then cL 10 line else if op=4 then yi vs v.ty sub else fm v.ty):=by
  conv=>lhs;unfold aL
  rw[aa4 (by omega),abf (by omega)];cases bq vs name with
  |none=>rfl
  |some v=>
   simp only
   rw[aa4 (by omega)]
 rw[e];clear e;cases J:bq vs name with
 |none=>
  simp[J,fV,bN,eV,tA]at D;rcases h with h|h<;>subst h<;>rw[eW (by simp)]<;>simp[f109,eN,cL,D,aw]
 |some v=>
  simp[J,fV,bN,eV]at D;rcases h with h|h<;>subst h
  ·cases H:v.arr with
   |true=>(rw[eW (by simp)];simp[f109,eN,cL,D,aw,H])
   |false=>
    by_cases E:2<v.ty
    ·(rw[eW (by simp)];simp[f109,eN,cL,D,aw,H,E])
    ·(rw[eW (by simp)];simp[f109,eN,fm,D,aw,H,E])
  ·cases H:v.arr with
   |false=>(rw[eW (by simp)];simp[f109,eN,cL,D,aw,H])
   |true=>
    by_cases E:2<v.ty
    ·(rw[eW (by simp)];simp[f109,eN,cL,D,aw,H,E])
    ·obtain⟨y,A0,O⟩:=A' rfl;subst A0;simp only[yi,oM,yh,BL,Li,qg,Wu];by_cases I:(aL vs y).e=0
     ·by_cases U:(aL vs y).t=1
      ·have:=ae8 (nn:=nn) (line:=line) (field:=field) M J H E O rfl I U;simpa [I,U,E,H,fm]using this
      ·have:=ae9 (nn:=nn) (line:=line) (field:=field) M J H E O rfl I U;simpa [I,U,E,H,cL]using this
     ·have:=afa (nn:=nn) (line:=line) (field:=field) M J H E O rfl I;simpa [I,E,H,cL]using this
end
section
variable {vs:List Vr}
set_option maxHeartbeats 1000000 in
theorem anx{nn line:Int}{name field:Tx}{a:Ex}(h:RT vs a):RT vs (.mk 6 nn name field [a] line):=by
 have e:aL vs (.mk 6 nn name field [a] line)=cv 6 line (aL vs a) (aL vs a):=by
  conv=>lhs;unfold aL
  rw[aa4 (by omega),aa4 (by omega)];rfl
 unfold RT at h⊢;rw[e,eW (by simp)];clear e;generalize aL vs a=T at*;simp[eN]at h;simp[f109,eN,aw,aJ,h];by_cases D:T.e=0
 ·by_cases H:T.t=1<;>simp[D,H,cv,gL,ie,fm,cL]
 ·simp[D,cv]
set_option maxHeartbeats 1000000 in
theorem anz{nn line:Int}{name field:Tx}{a:Ex}(h:RT vs a):RT vs (.mk 7 nn name field [a] line):=by
 have e:aL vs (.mk 7 nn name field [a] line)=cv 7 line (aL vs a) (aL vs a):=by
  conv=>lhs;unfold aL
  rw[aa4 (by omega),aa4 (by omega)];rfl
 unfold RT at h⊢;rw[e,eW (by simp)];clear e;generalize aL vs a=T at*;simp[eN]at h;simp[f109,eN,aw,aJ,h];by_cases D:T.e=0
 ·by_cases H:T.t=2<;>simp[D,H,cv,gL,ie,fm,cL]
 ·simp[D,cv]
set_option maxHeartbeats 1000000 in
theorem anA{nn line:Int}{name field:Tx}{a b:Ex}(h:RT vs a)(E:RT vs b):RT vs (.mk 8 nn name field [a,b] line):=by
 have e:aL vs (.mk 8 nn name field [a,b] line)=cv 8 line (aL vs a) (aL vs b):=by
  conv=>lhs;unfold aL
  rw[aa4 (by omega),aa4 (by omega)];rfl
 unfold RT at h E⊢;rw[e,eW (by simp)];clear e;generalize aL vs a=T at*;generalize aL vs b=I at*;simp[eN]at h E;simp[f109,eN,aw,aJ,h,E];by_cases D:T.e=0
 ·by_cases H:I.e=0
  ·by_cases M:T.t=1<;>by_cases J:I.t=1<;>simp[D,H,M,J,cv,gL,ie,fm,cL]
  ·simp[D,H,cv]
 ·simp[D,cv]
set_option maxHeartbeats 1000000 in
theorem anB{nn line:Int}{name field:Tx}{a b:Ex}(h:RT vs a)(E:RT vs b):RT vs (.mk 9 nn name field [a,b] line):=by
 have e:aL vs (.mk 9 nn name field [a,b] line)=cv 9 line (aL vs a) (aL vs b):=by
  conv=>lhs;unfold aL
  rw[aa4 (by omega),aa4 (by omega)];rfl
 unfold RT at h E⊢;rw[e,eW (by simp)];clear e;generalize aL vs a=T at*;generalize aL vs b=I at*;simp[eN]at h E;simp[f109,eN,aw,aJ,h,E];by_cases D:T.e=0
 ·by_cases H:I.e=0
  ·by_cases M:T.t=1<;>by_cases J:I.t=1<;>simp[D,H,M,J,cv,gL,ie,fm,cL]
  ·simp[D,H,cv]
 ·simp[D,cv]
set_option maxHeartbeats 1000000 in
theorem akc{nn line:Int}{name field:Tx}{a b:Ex}(h:RT vs a)(E:RT vs b):RT vs (.mk 10 nn name field [a,b] line):=by
 have e:aL vs (.mk 10 nn name field [a,b] line)=cv 10 line (aL vs a) (aL vs b):=by
  conv=>lhs;unfold aL
  rw[aa4 (by omega),aa4 (by omega)];rfl
 unfold RT at h E⊢;rw[e,eW (by simp)];clear e;generalize aL vs a=T at*;generalize aL vs b=I at*;simp[eN]at h E;simp[f109,eN,aw,aJ,h,E];by_cases D:T.e=0
 ·by_cases H:I.e=0
  ·by_cases M:T.t=1<;>by_cases J:I.t=1<;>simp[D,H,M,J,cv,gL,ie,fm,cL]
  ·simp[D,H,cv]
 ·simp[D,cv]
set_option maxHeartbeats 1000000 in
theorem akd{nn line:Int}{name field:Tx}{a b:Ex}(h:RT vs a)(E:RT vs b):RT vs (.mk 11 nn name field [a,b] line):=by
 have e:aL vs (.mk 11 nn name field [a,b] line)=cv 11 line (aL vs a) (aL vs b):=by
  conv=>lhs;unfold aL
  rw[aa4 (by omega),aa4 (by omega)];rfl
 unfold RT at h E⊢;rw[e,eW (by simp)];clear e;generalize aL vs a=T at*;generalize aL vs b=I at*;simp[eN]at h E;simp[f109,eN,aw,aJ,h,E];by_cases D:T.e=0
 ·by_cases H:I.e=0
  ·by_cases M:T.t=1<;>by_cases J:I.t=1<;>simp[D,H,M,J,cv,gL,ie,fm,cL]
  ·simp[D,H,cv]
 ·simp[D,cv]
set_option maxHeartbeats 1000000 in
theorem ake{nn line:Int}{name field:Tx}{a b:Ex}(h:RT vs a)(E:RT vs b):RT vs (.mk 12 nn name field [a,b] line):=by
 have e:aL vs (.mk 12 nn name field [a,b] line)=cv 12 line (aL vs a) (aL vs b):=by
  conv=>lhs;unfold aL
  rw[aa4 (by omega),aa4 (by omega)];rfl
 unfold RT at h E⊢;rw[e,eW (by simp)];clear e;generalize aL vs a=T at*;generalize aL vs b=I at*;simp[eN]at h E;simp[f109,eN,aw,aJ,h,E];by_cases D:T.e=0
 ·by_cases H:I.e=0
  ·by_cases M:T.t=1<;>by_cases J:I.t=1<;>simp[D,H,M,J,cv,gL,ie,fm,cL]
  ·simp[D,H,cv]
 ·simp[D,cv]
set_option maxHeartbeats 1000000 in
theorem akf{nn line:Int}{name field:Tx}{a b:Ex}(h:RT vs a)(E:RT vs b):RT vs (.mk 13 nn name field [a,b] line):=by
 have e:aL vs (.mk 13 nn name field [a,b] line)=cv 13 line (aL vs a) (aL vs b):=by
  conv=>lhs;unfold aL
  rw[aa4 (by omega),aa4 (by omega)];rfl
 unfold RT at h E⊢;rw[e,eW (by simp)];clear e;generalize aL vs a=T at*;generalize aL vs b=I at*;simp[eN]at h E;simp[f109,eN,aw,aJ,h,E];by_cases D:T.e=0
 ·by_cases H:I.e=0
  ·by_cases J:I.t=T.t<;>simp[D,H,J,cv,gL,ie,fm,cL]
  ·simp[D,H,cv]
 ·simp[D,cv]
end
section
variable {vs:List Vr}
set_option maxHeartbeats 1000000 in
theorem akg{nn line:Int}{name field:Tx}{a b:Ex}(h:RT vs a)(D:RT vs b):RT vs (.mk 14 nn name field [a,b] line):=by
 have e:aL vs (.mk 14 nn name field [a,b] line)=cv 14 line (aL vs a) (aL vs b):=by
  conv=>lhs;unfold aL
  rw[aa4 (by omega),aa4 (by omega)];rfl
 unfold RT at h D⊢;rw[e,eW (by simp)];clear e;generalize aL vs a=T at*;generalize aL vs b=H at*;simp[eN]at h D;simp[f109,eN,aw,aJ,h,D];by_cases E:T.e=0
 ·by_cases I:H.e=0
  ·by_cases J:H.t=T.t<;>simp[E,I,J,cv,gL,ie,fm,cL]
  ·simp[E,I,cv]
 ·simp[E,cv]
set_option maxHeartbeats 1000000 in
theorem akh{nn line:Int}{name field:Tx}{a b:Ex}(h:RT vs a)(D:RT vs b):RT vs (.mk 15 nn name field [a,b] line):=by
 have e:aL vs (.mk 15 nn name field [a,b] line)=cv 15 line (aL vs a) (aL vs b):=by
  conv=>lhs;unfold aL
  rw[aa4 (by omega),aa4 (by omega)];rfl
 unfold RT at h D⊢;rw[e,eW (by simp)];clear e;generalize aL vs a=T at*;generalize aL vs b=H at*;simp[eN]at h D;simp[f109,eN,aw,aJ,h,D];by_cases E:T.e=0
 ·by_cases I:H.e=0
  ·by_cases M:T.t=1<;>by_cases J:H.t=1<;>simp[E,I,M,J,cv,gL,ie,fm,cL]
  ·simp[E,I,cv]
 ·simp[E,cv]
set_option maxHeartbeats 1000000 in
theorem aki{nn line:Int}{name field:Tx}{a b:Ex}(h:RT vs a)(D:RT vs b):RT vs (.mk 16 nn name field [a,b] line):=by
 have e:aL vs (.mk 16 nn name field [a,b] line)=cv 16 line (aL vs a) (aL vs b):=by
  conv=>lhs;unfold aL
  rw[aa4 (by omega),aa4 (by omega)];rfl
 unfold RT at h D⊢;rw[e,eW (by simp)];clear e;generalize aL vs a=T at*;generalize aL vs b=H at*;simp[eN]at h D;simp[f109,eN,aw,aJ,h,D];by_cases E:T.e=0
 ·by_cases I:H.e=0
  ·by_cases M:T.t=1<;>by_cases J:H.t=1<;>simp[E,I,M,J,cv,gL,ie,fm,cL]
  ·simp[E,I,cv]
 ·simp[E,cv]
set_option maxHeartbeats 1000000 in
theorem akj{nn line:Int}{name field:Tx}{a b:Ex}(h:RT vs a)(D:RT vs b):RT vs (.mk 17 nn name field [a,b] line):=by
 have e:aL vs (.mk 17 nn name field [a,b] line)=cv 17 line (aL vs a) (aL vs b):=by
  conv=>lhs;unfold aL
  rw[aa4 (by omega),aa4 (by omega)];rfl
 unfold RT at h D⊢;rw[e,eW (by simp)];clear e;generalize aL vs a=T at*;generalize aL vs b=H at*;simp[eN]at h D;simp[f109,eN,aw,aJ,h,D];by_cases E:T.e=0
 ·by_cases I:H.e=0
  ·by_cases M:T.t=1<;>by_cases J:H.t=1<;>simp[E,I,M,J,cv,gL,ie,fm,cL]
  ·simp[E,I,cv]
 ·simp[E,cv]
set_option maxHeartbeats 1000000 in
theorem akk{nn line:Int}{name field:Tx}{a b:Ex}(h:RT vs a)(D:RT vs b):RT vs (.mk 18 nn name field [a,b] line):=by
 have e:aL vs (.mk 18 nn name field [a,b] line)=cv 18 line (aL vs a) (aL vs b):=by
  conv=>lhs;unfold aL
  rw[aa4 (by omega),aa4 (by omega)];rfl
 unfold RT at h D⊢;rw[e,eW (by simp)];clear e;generalize aL vs a=T at*;generalize aL vs b=H at*;simp[eN]at h D;simp[f109,eN,aw,aJ,h,D];by_cases E:T.e=0
 ·by_cases I:H.e=0
  ·by_cases M:T.t=1<;>by_cases J:H.t=1<;>simp[E,I,M,J,cv,gL,ie,fm,cL]
  ·simp[E,I,cv]
 ·simp[E,cv]
set_option maxHeartbeats 1000000 in
theorem akl{nn line:Int}{name field:Tx}{a b:Ex}(h:RT vs a)(D:RT vs b):RT vs (.mk 19 nn name field [a,b] line):=by
 have e:aL vs (.mk 19 nn name field [a,b] line)=cv 19 line (aL vs a) (aL vs b):=by
  conv=>lhs;unfold aL
  rw[aa4 (by omega),aa4 (by omega)];rfl
 unfold RT at h D⊢;rw[e,eW (by simp)];clear e;generalize aL vs a=T at*;generalize aL vs b=H at*;simp[eN]at h D;simp[f109,eN,aw,aJ,h,D];by_cases E:T.e=0
 ·by_cases I:H.e=0
  ·by_cases M:T.t=2<;>by_cases J:H.t=2<;>simp[E,I,M,J,cv,gL,ie,fm,cL]
  ·simp[E,I,cv]
 ·simp[E,cv]
set_option maxHeartbeats 1000000 in
theorem akm{nn line:Int}{name field:Tx}{a b:Ex}(h:RT vs a)(D:RT vs b):RT vs (.mk 20 nn name field [a,b] line):=by
 have e:aL vs (.mk 20 nn name field [a,b] line)=cv 20 line (aL vs a) (aL vs b):=by
  conv=>lhs;unfold aL
  rw[aa4 (by omega),aa4 (by omega)];rfl
 unfold RT at h D⊢;rw[e,eW (by simp)];clear e;generalize aL vs a=T at*;generalize aL vs b=H at*;simp[eN]at h D;simp[f109,eN,aw,aJ,h,D];by_cases E:T.e=0
 ·by_cases I:H.e=0
  ·by_cases M:T.t=2<;>by_cases J:H.t=2<;>simp[E,I,M,J,cv,gL,ie,fm,cL]
  ·simp[E,I,cv]
 ·simp[E,cv]
set_option maxHeartbeats 1000000 in
theorem akn{nn line:Int}{name field:Tx}{a b:Ex}(h:RT vs a)(D:RT vs b):RT vs (.mk 21 nn name field [a,b] line):=by
 have e:aL vs (.mk 21 nn name field [a,b] line)=cv 21 line (aL vs a) (aL vs b):=by
  conv=>lhs;unfold aL
  rw[aa4 (by omega),aa4 (by omega)];rfl
 unfold RT at h D⊢;rw[e,eW (by simp)];clear e;generalize aL vs a=T at*;generalize aL vs b=H at*;simp[eN]at h D;simp[f109,eN,aw,aJ,h,D];by_cases E:T.e=0
 ·by_cases I:H.e=0
  ·by_cases M:T.t=2<;>by_cases J:H.t=2<;>simp[E,I,M,J,cv,gL,ie,fm,cL]
  ·simp[E,I,cv]
 ·simp[E,cv]
end
end Go.Am
end
section
namespace Go.Am
open Go Go.Proofs
variable [Inhabited b7]
set_option maxRecDepth 20000
theorem ako{vs:List Vr}{op nn line:Int}{name field:Tx}{a b:Ex}(A7:8<=op)(A8:op<=21)(h:RT vs a)(D:RT vs b):RT vs (.mk op nn name field [a,b] line):=by
 have A':op=8\/op=9\/op=10\/op=11\/op=12\/op=13\/op=14\/op=15\/op=16\/op=17\/op=18\/op=19\/op=20\/op=21:=by omega
 rcases A' with e|e|e|e|e|e|e|e|e|e|e|e|e|e<;>subst e
 ·exact anA h D
 ·exact anB h D
 ·exact akc h D
 ·exact akd h D
 ·exact ake h D
 ·exact akf h D
 ·exact akg h D
 ·exact akh h D
 ·exact aki h D
 ·exact akj h D
 ·exact akk h D
 ·exact akl h D
 ·exact akm h D
 ·exact akn h D
section
variable {vs:List Vr} (I:vs.length<1000000)
include I
mutual
theorem uj:∀x:Ex,bz x=true->RT vs x
 | .mk op nn name field sub line,E=>by
  simp only[bz,Ds,aa8,ago,afM]at E;obtain⟨A9,H,_,_,A0⟩:=E;have ih:=EA sub A0;unfold dY at H;by_cases A1:op=1\/op=2
  ·exact akb A1
  ·by_cases A2:op=5
   ·subst A2;exact Yu I
   ·by_cases A3:op=3\/op=4
    ·refine afb I A3 (λA4=>?_);rw[abf (.inl A4)]at H;match sub,H with
     |[y],_=>exact⟨y,rfl,ih y (by simp)⟩
    ·by_cases Y:op=6\/op=7
     ·rw[abf (.inr Y)]at H;match sub,H with
      |[y],_=>
       rcases Y with e|e<;>subst e
       ·exact anx (ih y (by simp))
       ·exact anz (ih y (by simp))
     ·rw[aa4 (by omega),abf (by omega)]at H;match sub,H with
      |[y,z],_=>exact ako (by omega) (by omega) (ih y (by simp)) (ih z (by simp))
theorem EA:∀l:List Ex,bO l=true->∀y∈l,RT vs y
 |[],_,y,J=>by simp at J
 |x::r,E,y,J=>by
  simp only[bO,Ds]at E;rcases abd.1 J with e|J
  ·rw[e];exact uj x E.1
  ·exact EA r E.2 y J
end
end
theorem IX{op line:Int}{a b:Te}(h:(cv op line a b).e=0):(cv op line a b).line=0:=by
 rw[(iE h).2.2.2.2];rfl
theorem aaV(vs:List Vr):∀x:Ex,(aL vs x).e=0->(aL vs x).line=0
 | .mk op nn name field sub line,h=>by
  unfold aL at h⊢;split at h
  ·rename_i c;rw[abf c];rfl
  ·rename_i c;rw[aa4 c];split at h
   ·rename_i M;rw[abf M];cases E:bq vs name with
    |none=>rw[E]at h;simp[cL]at h
    |some v=>
     rw[E]at h;simp only at h⊢;split at h
     ·rename_i O;rw[abf O];split at h
      ·simp[cL]at h
      ·rename_i T;rw[aa4 T];cases A5:mi v.ty field with
       |none=>rw[A5]at h;simp[cL]at h
       |some p=>rfl
     ·rename_i O;rw[aa4 O];split at h
      ·simp[cL]at h
      ·rename_i T;rw[aa4 T];split at h
       ·rename_i U;rw[abf U];cases sub with
        |nil=>rfl
        |cons y r=>
         simp only[yi]at h⊢;split at h
         ·rename_i V;exact absurd h V
         ·rename_i V;rw[aa4 V];split at h
          ·simp[cL]at h
          ·rename_i A6;rw[aa4 A6];rfl
       ·rename_i U;rw[aa4 U];rfl
   ·rename_i M;rw[aa4 M];match sub,h with
    |[],_=>rfl
    |[y],h=>exact IX h
    |y::z::_,h=>exact IX h
theorem rI(vs:List Vr)(x:Ex)(t:Int):GB vs x t=dG vs x t:=by
 unfold GB dG;have:=aaV vs x;by_cases h:(aL vs x).e=0
 ·have I:=this h;by_cases Z:(aL vs x).t=t
  ·simp[h,Z,I]
  ·simp[h,Z]
 ·simp[h]
end Go.Am
end
section
namespace Go.Am
open Go Go.Proofs Go.Proofs.Tryz
variable [Inhabited b7]
set_option maxRecDepth 20000
def RM(vs:List Vr)(lp:Bool)(x:Sm):Prop:=ai ctx 71 [.d (.list (vs.map bN)),.d (.agg (smL x)),.d (.bool lp)] []=some (.ret (dJ (dV (kU vs lp x))),[])
def qy(vs:List Vr)(lp:Bool)(l:List Sm):Prop:=ai ctx 40 [.d (.list (vs.map bN)),.d (.list (l.map cq)),.d (.bool lp)] []=some (.ret (dJ (dV (eX vs lp l))),[])
@[simp] def iw(e:EL):aH:=.box [.d (.int .i64 e.1),.d (.int .i64 e.2)]
theorem Na{vs:List Vr}{lp:Bool}{l:List Sm}(O:l.length<100000000)(M:∀x∈l,RM vs lp x)(k:Kt)(RF:EL->bZ)
 (D:∀e u v X,k .ret ⟨27,aI,[(6,true,.ptr 400 u 0)],[⟨400,u,iw e⟩,⟨500,v,X⟩]⟩=RF e)
 (I:∀(u v:Nat)(X:aH)(b c:AV),k (.exit 0) ⟨27,aI,[(0,true,.d (.list (vs.map bN))),(1,true,.d (.list (l.map cq))),(2,true,.d (.bool lp)),(6,true,.ptr 400 u 0),(7,true,b),(12,true,c)],[⟨400,u,iw (0,0)⟩,⟨500,v,X⟩]⟩=RF (0,0)):∀(rest pre:List Sm)(u v:Nat)(X:aH),l=pre++rest->
 aO ctx 40 (.loop (Code.at (bk f40) [1,0,1,0,0])) ⟨27,aI,[(0,true,.d (.list (vs.map bN))),(1,true,.d (.list (l.map cq))),(2,true,.d (.bool lp)),(6,true,.ptr 400 u 0),(7,true,.d (.int .i64 pre.length))],[⟨400,u,iw (0,0)⟩,⟨500,v,X⟩]⟩ k=RF (dV (eX vs lp rest))
 |[],pre,u,v,X,H=>by
  have V:pre.length=l.length:=by rw[H];simp
  simp only[iw]at I;rw[V,ah];simp[f40,I,eX,dV]
 |x::rest,pre,u,v,X,H=>by
  have T:pre.length<l.length:=by rw[H];simp
  have U:l[pre.length]=x:=by simp[H]
  have hm:=M x (by rw[H];simp);have ih:=λu v X=>Na O M k RF D I rest (pre++[x]) u v X (by simp[H]);have Y:IntKind.i64.wrap ((pre.length:Int)+1)=(pre.length:Int)+1:=az (by unfold bj;omega);have key:eX vs lp (x::rest)=fJ (kU vs lp x) (eX vs lp rest):=by rw[eX]
  rw[key];unfold RM dJ at hm;generalize kU vs lp x=E at*;generalize eX vs lp rest=F at*;simp only[iw]at D;rw[ah];by_cases J:E.1=0
  ·rw[mj J];simp[dV,J]at hm;simp[f40]at ih⊢;simp[T,U,fj,hm,Y,ih]
  ·rw[qo J];have D:=D E;simp[dV,J]at hm;simp[f40];simp[T,U,fj,hm,J,D,dV]
theorem Nb{vs:List Vr}{lp:Bool}{l:List Sm}(O:l.length<100000000)(M:∀x∈l,RM vs lp x):qy vs lp l:=by
 unfold qy;have h:=λk RF D I u v X=>Na O M k RF D I l [] u v X rfl;rw[amD (by simp)];simp[f40]at h⊢;rw[h _ (λe=>some (.ret (dJ e),[]))]
 ·intro a b u v X;simp[dJ]
 ·intro u v X b c;simp[dJ]
theorem akp{w:Vr}(h:dM w=true):w.arr=true->0<=w.lo/\w.lo<=w.hi/\w.hi<=255:=by
 intro A8;simp only[dM,Ds,A8,afz,aa8]at h;exact h.2.2.1.2
theorem Nc(l:List Vr)(A9:l.length<=1000)(M:∀v∈l,dM v=true)(H I:AV)(k:Kt)(RF:EL->bZ)
 (O:∀e u v X,e.1≠0->k .ret ⟨58,aI,[(2,true,.ptr 200 u 0)],[⟨150,1,.box [H,.d (.list (l.map bN)),I]⟩,⟨200,u,iw e⟩,⟨350,v,X⟩]⟩=RF e)
 (T:∀(u v:Nat)(X:aH)(a b c:AV),k (.exit 0) ⟨58,aI,[(1,true,.ptr 150 1 0),(2,true,.ptr 200 u 0),(3,true,a),(4,true,b),(11,true,c)],[⟨150,1,.box [H,.d (.list (l.map bN)),I]⟩,⟨200,u,iw (0,0)⟩,⟨350,v,X⟩]⟩=RF (0,0)):∀(rest pre:List Vr)(n:Int)(u v:Nat)(X:aH),l=pre++rest->0<=n->n<=1024->
 aO ctx 15 (.loop (Code.at (bk f15) [1,1,0,1,0,0])) ⟨58,aI,[(1,true,.ptr 150 1 0),(2,true,.ptr 200 u 0),(3,true,.d (.int .i64 n)),(4,true,.d (.int .i64 pre.length))],[⟨150,1,.box [H,.d (.list (l.map bN)),I]⟩,⟨200,u,iw (0,0)⟩,⟨350,v,X⟩]⟩ k=RF (Ir rest pre n)
 |[],pre,n,u,v,X,D,AA,AB=>by
  have AC:pre.length=l.length:=by rw[D];simp
  simp only[iw]at T;rw[AC,ah];simp[f15,T,Ir]
 |x::rest,pre,n,u,v,X,D,AA,AB=>by
  have U:pre.length<l.length:=by rw[D];simp
  have Y:l[pre.length]=x:=by simp[D]
  have Z:List.take pre.length (List.map bN l)=List.map bN pre:=by simp[D]
  have y:pre.length<=l.length:=by omega
  have A0:=M x (by rw[D];simp);have AF:=rY A0;have A':=aaU (akp A0);have J:=nV (vs:=pre) (by omega) x.name;have ih:=λu v X=>Nc l A9 M H I k RF O T rest (pre++[x]) (n+bV x) u v X (by simp[D]);have AD:IntKind.i64.wrap ((pre.length:Int)+1)=(pre.length:Int)+1:=az (by unfold bj;omega);have A1:IntKind.i64.wrap (n+bV x)=n+bV x:=az (by unfold bj;omega);have A2:=λu v X=>O (11,x.line) u v X (by simp);have A3:=λu v X=>O (13,x.line) u v X (by simp);simp only[iw]at A2 A3;simp[eV]at A';generalize AG:fV pre x.name=W at*;simp[bN,eV]at J;rw[ah];unfold Ir;cases A4:(bq pre x.name).isSome with
  |true=>
   rw[A4]at J;simp[f15];simp[U,Y,Z,y,bN,eV,J,A2,aw]
  |false=>
   rw[A4]at J;by_cases A5:1024<n+bV x
   ·simp[f15];simp[U,Y,Z,y,bN,eV,J,A',A1,A5,A3,aw]
   ·have ih:=λu v X=>ih u v X (by omega) (by omega);simp[f15]at ih⊢;simp[U,Y,Z,y,bN,eV,J,A',AD,A1,A5,ih,aw]
theorem aaW{p:Pg}(M:qi p=true)(A6:qy p.vars false p.body):ai ctx 15 [.d (.agg [.str p.name,.list (p.vars.map bN),.list (p.body.map cq)])] []=some (.ret (dJ (dV (qj p))),[]):=by
 simp only[qi,Ds,aa8,adA]at M;obtain⟨_,AH,AE,AI⟩:=M;unfold qy at A6;unfold qj;generalize AJ:eX p.vars false p.body=E at*;have h:=λH I k RF O T u v X=>Nc p.vars (by omega) AE H I k RF O T p.vars [] 0 u v X rfl (by omega) (by omega);generalize AK:Ir p.vars [] 0=V at*;rw[amt (by simp)];simp[f15]at h⊢;rw[h _ _ _ (λe=>some (.ret (dJ (dV (fJ e E))),[]))]
 ·intro a b u v X A7;rw[qo A7];simp[dJ,dV,A7]
 ·intro u v X a b c;rw[mj rfl];simp[A6,dJ]
@[reducible] noncomputable def Dy(p:List Nat):Code:=Code.at (bk f111) p
theorem Nd{x:Sm}{f:Tx}{pre AH:List Tx}(A4:eu x=pre++f::AH)(Z:(eu x).length<100000000){a0:AV}{u v5 v6:Nat}{W X5 X6:aH}(k:Kt)(R1 R2:bZ)
 (I:k .ret ⟨91,aI,[(4,true,.ptr 300 u 0)],[⟨250,1,bu x⟩,⟨300,u,iw (11,lL x)⟩,⟨350,1,W⟩,⟨500,v5,X5⟩,⟨650,v6,X6⟩]⟩=R1)
 (D:∀b c,k (.exit 2) ⟨91,aI,[(0,true,a0),(3,true,.ptr 250 1 0),(4,true,.ptr 300 u 0),(5,true,.ptr 350 1 0),(7,true,.d (.int .i64 pre.length)),(8,true,.ptr 500 v5 0),(10,true,b),(60,true,c)],[⟨250,1,bu x⟩,⟨300,u,iw (0,0)⟩,⟨350,1,W⟩,⟨500,v5,X5⟩,⟨650,v6,X6⟩]⟩=R2):∀(rest J:List Tx),pre=J++rest->
 aO ctx 111 (.loop (Dy [1,1,1,1,0,1,0,0,1,0,0,1,1,0,1,0,0])) ⟨91,aI,[(0,true,a0),(3,true,.ptr 250 1 0),(4,true,.ptr 300 u 0),(5,true,.ptr 350 1 0),(7,true,.d (.int .i64 pre.length)),(8,true,.ptr 500 v5 0),(10,true,.d (.int .i64 J.length))],[⟨250,1,bu x⟩,⟨300,u,iw (0,0)⟩,⟨350,1,W⟩,⟨500,v5,X5⟩,⟨650,v6,X6⟩]⟩ k=if f∈rest then R1 else R2
 |[],J,H=>by
  have A8:J.length=pre.length:=by rw[H];simp
  simp only[iw,bu]at D;rw[A8,ah];simp[Dy,f111,D]
 |c::rest,J,H=>by
  have O:J.length<pre.length:=by rw[H];simp
  have U:pre.length<(eu x).length:=by rw[A4];simp
  have A1:J.length<(eu x).length:=by omega
  have A2:(eu x)[pre.length]=f:=by simp[A4]
  have AC:(eu x)[J.length]=c:=by simp[A4,H]
  have ih:=Nd A4 Z k R1 R2 I D rest (J++[c]) (by simp[H]);have A9:IntKind.i64.wrap ((J.length:Int)+1)=(J.length:Int)+1:=az (by unfold bj;omega);simp only[iw,bu]at I;rw[ah];by_cases V:c=f
  ·have AD:f=c:=V.symm;simp[Dy,f111];simp[O,U,A1,A2,AC,V,I,aw]
  ·have AD:¬f=c:=λh=>V h.symm;simp[Dy,f111]at ih⊢;simp[O,U,A1,A2,AC,V,AD,A9,ih,aw]
theorem Nf{vs:List Vr}{x:Sm}{w:Vr}(Z:(eu x).length<100000000)(hle:(cH x).length=(eu x).length)(A5:∀y∈cH x,RT vs y)(k:Kt)(RF:EL->bZ)
 (I:∀e u v5 v6 X5 X6,k .ret ⟨91,aI,[(4,true,.ptr 300 u 0)],[⟨250,1,bu x⟩,⟨300,u,iw e⟩,⟨350,1,iL w⟩,⟨500,v5,X5⟩,⟨650,v6,X6⟩]⟩=RF e)
 (D:∀u v5 v6 X5 X6 b c,k (.exit 0) ⟨91,aI,[(0,true,.d (.list (vs.map bN))),(3,true,.ptr 250 1 0),(4,true,.ptr 300 u 0),(5,true,.ptr 350 1 0),(7,true,b),(34,true,c)],[⟨250,1,bu x⟩,⟨300,u,iw (0,0)⟩,⟨350,1,iL w⟩,⟨500,v5,X5⟩,⟨650,v6,X6⟩]⟩=RF (0,0)):∀(rest pre:List Tx)(M A':List Ex)(u v5 v6:Nat)(X5 X6:aH),eu x=pre++rest->cH x=A'++M->A'.length=pre.length->
 aO ctx 111 (.loop (Dy [1,1,1,1,0,1,0,0])) ⟨91,aI,[(0,true,.d (.list (vs.map bN))),(3,true,.ptr 250 1 0),(4,true,.ptr 300 u 0),(5,true,.ptr 350 1 0),(7,true,.d (.int .i64 pre.length))],[⟨250,1,bu x⟩,⟨300,u,iw (0,0)⟩,⟨350,1,iL w⟩,⟨500,v5,X5⟩,⟨650,v6,X6⟩]⟩ k=RF (dV (jm vs w.ty (lL x) rest M pre))
 |[],pre,M,A',u,v5,v6,X5,X6,H,A0,A6=>by
  have A8:pre.length=(eu x).length:=by rw[H];simp
  have AI:jm vs w.ty (lL x) [] M pre=(0,0):=by unfold jm;rfl
  simp only[iw,bu,iL]at D;rw[AI,A8,ah];simp[Dy,f111,D,dV]
 |f::rest,pre,[],A',u,v5,v6,X5,X6,H,A0,A6=>by
  rw[H,A0]at hle;simp at hle;omega
 |f::rest,pre,y::M,A',u,v5,v6,X5,X6,H,A0,A6=>by
  have O:pre.length<(eu x).length:=by rw[H];simp
  have U:(eu x)[pre.length]=f:=by simp[H]
  have A1:pre.length<(cH x).length:=by omega
  have A2:(cH x)[pre.length]=y:=by simp[<-A6,A0]
  have AJ:=A5 y (by rw[A0];simp);have Y:=Yt w.ty f;have ih:=λu v5 v6 X5 X6=>Nf Z hle A5 k RF I D rest (pre++[f]) M (A'++[y]) u v5 v6 X5 X6 (by simp[H]) (by simp[A0]) (by simp[A6]);have AE:=λa0 u v5 v6 W X5 X6 k R1 R2 I D=>Nd (a0:=a0) (u:=u) (v5:=v5) (v6:=v6) (W:=W) (X5:=X5) (X6:=X6) H Z k R1 R2 I D pre [] rfl;have A9:IntKind.i64.wrap ((pre.length:Int)+1)=(pre.length:Int)+1:=az (by unfold bj;omega);have key:jm vs w.ty (lL x) (f::rest) (y::M) pre=(match mi w.ty f with
   |none=>(9,lL x)
   |some q=>if q.Oz=false then (9,lL x)else if f∈pre then (11,lL x)else fJ (dG vs y q.ty) (jm vs w.ty (lL x) rest M (pre++[f]))):=by
   conv=>lhs;unfold jm
   rfl
  have AA:=I (9,lL x);have AF:=I (11,lL x);have AB:=I (dG vs y (fP w.ty f).ty);have hw:=rH (fP w.ty f).ty AJ;rw[rI]at hw;unfold dJ at hw;simp only[iw,bu,iL]at AA AF AB;rw[key];clear key;rw[ah];cases V:mi w.ty f with
  |none=>
   simp[V,fP,dj,wm]at Y;simp[Dy,f111];simp[O,U,Y,AA,dV,aw]
  |some q=>
   simp only[fP,V,afU]at hw AB;simp[V,fP,dj]at Y;simp only
   generalize jm vs w.ty (lL x) rest M (pre++[f])=E at*;generalize dG vs y q.ty=T at*;by_cases hi:q.Oz=false
   ·simp[hi]at Y;simp[Dy,f111];simp[O,U,Y,AA,dV,hi,aw]
   ·have hi:q.Oz=true:=by simpa using hi
    simp[hi]at Y;simp[Dy,f111]at AE ih⊢;simp[O,U,Y,hi,aw];rw[AE (R1:=RF (11,lL x)) (R2:=RF (dV (fJ T E)))]
    ·by_cases hm:f∈pre
     ·simp[hm,dV]
     ·simp[hm]
    ·simp[AF]
    ·intro b c;by_cases A7:T.1=0
     ·rw[mj A7];simp[O,U,A1,A2,aJ,hw,A7,A9,ih,aw]
     ·rw[qo A7];simp[O,U,A1,A2,aJ,hw,A7,AB,dV,aw]
theorem afc{vs:List Vr}(AK:vs.length<1000000){x:Sm}(Z:(eu x).length<100000000)(hle:(cH x).length=(eu x).length)(A5:∀y∈cH x,RT vs y):ai ctx 111 [.d (.list (vs.map bN)),.d (.agg (smL x))] []=some (.ret (dJ (dV (Xr vs x))),[]):=by
 have A3:=nV AK (iB x);rw[ahB (by simp)];unfold Xr;cases AG:bq vs (iB x)with
 |none=>
  simp[AG,fV,bN,eV,tA]at A3;simp[f111,A3,dJ,dV]
 |some v=>
  have h:=λk RF I D u v5 v6 X5 X6=>Nf (w:=v) Z hle A5 k RF I D (eu x) [] (cH x) [] u v5 v6 X5 X6 rfl rfl rfl;simp[AG,fV,bN,eV]at A3;by_cases D:v.ty<=2
  ·simp[f111,A3,dJ,dV,D]
  ·generalize AL:jm vs v.ty (lL x) (eu x) (cH x) []=E at*;simp[Dy,f111]at h;simp[f111,A3,D];rw[h _ (λe=>some (.ret (dJ e),[]))]
   ·rw[AL]
   ·intro a b u v5 v6 X5 X6;simp[dJ]
   ·intro u v5 v6 X5 X6 b c;simp[dJ]
section
variable {vs:List Vr} {lp:Bool} {x:Sm}
theorem anC(h:bK x=7):RM vs lp x:=by
 unfold RM;rw[tX,nS (by simp)];cases lp with
 |true=>simp[f71,h,dJ,dV]
 |false=>simp[f71,h,dJ,dV]
theorem anD(h:bK x=8):RM vs lp x:=by
 unfold RM;rw[tX,nS (by simp)];simp[f71,h,dJ,dV]
theorem anE(O:vs.length<1000000)(h:bK x=9)(U:(eu x).length<100000000)(hle:(cH x).length=(eu x).length)(V:∀y∈cH x,RT vs y):RM vs lp x:=by
 have M:=afc O U hle V;unfold RM;rw[tX,nS (by simp)];generalize Xr vs x=E at*;simp[h,dJ]at M;simp[f71,h,dJ,M]
theorem anF(h:bK x=5){b:List Sm}(I:bL x=[b])(J:RT vs (eh x))(H:qy vs true b):RM vs lp x:=by
 have hw:=rH 2 J;rw[rI]at hw;unfold qy at H;unfold RM;rw[tX,nS (by simp)];have e:wj vs (bL x)=eX vs true b:=by rw[I];rfl
 rw[e];generalize dG vs (eh x) 2=T at*;generalize eX vs true b=E at*;simp[dJ]at hw H;by_cases D:T.1=0
 ·simp[f71,h,I,dz,dJ,hw,H,mj D,D]
 ·simp[f71,h,I,dJ,hw,qo D,D,dV]
theorem anG(h:bK x=6){b:List Sm}(I:bL x=[b])(J:RT vs (eh x))(H:qy vs true b):RM vs lp x:=by
 have hw:=rH 2 J;rw[rI]at hw;unfold qy at H;unfold RM;rw[tX,nS (by simp)];have e:wj vs (bL x)=eX vs true b:=by rw[I];rfl
 have Y:(dG vs (eh x) 2).1=0->dG vs (eh x) 2=(0,0):=by
  unfold dG;split
  ·intro hh;rename_i c;exact absurd hh c
  ·split
   ·intro hh;simp at hh
   ·intro _;rfl
 rw[e];generalize dG vs (eh x) 2=T at*;generalize eX vs true b=E at*;have Z:dV T=T:=by
  unfold dV;by_cases D:T.1=0
  ·rw[abf D,Y D]
  ·rw[aa4 D]
 simp[dJ]at hw H;by_cases D:E.1=0
 ·simp[dV,D]at H;simp[f71,h,I,dz,dJ,hw,H,mj D,Z]
 ·simp[dV,D]at H;simp[f71,h,I,dz,dJ,H,qo D,D,dV]
end
section
variable {vs:List Vr} {lp:Bool} {x:Sm}
theorem anH(y:vs.length<1000000)(h:bK x=1)(E:RT vs (fe x))(I:RT vs (eh x)):RM vs lp x:=by
 have D:=nV y (dU (fe x));unfold RT at E I;unfold RM;rw[tX,nS (by simp),abf h];unfold F5;generalize aL vs (fe x)=T at*;generalize aL vs (eh x)=O at*;simp[eN]at E I;cases Y:bq vs (dU (fe x))with
 |none=>
  simp[Y,fV,bN,eV,tA]at D;simp[f71,h,D,dJ,dV]
 |some w=>
  simp[Y,fV,bN,eV]at D;by_cases J:w.sec=1
  ·simp[f71,h,D,J,dJ,dV]
  ·by_cases H:T.e=0
   ·have U:(Iq T).1=0:=H;by_cases M:O.e=0
    ·have V:(Iq O).1=0:=M;by_cases Z:O.t=T.t
     ·simp[f71,h,D,J,E,H,I,M,Z,mj U,mj V,dJ,dV]
     ·simp[f71,h,D,J,E,H,I,M,Z,mj U,mj V,dJ,dV]
    ·have V:¬(Iq O).1=0:=M;simp[f71,h,D,J,E,H,I,M,fJ,dJ,dV,Iq]
   ·have U:¬(Iq T).1=0:=H;simp[f71,h,D,J,E,H,fJ,dJ,dV,Iq]
end
@[reducible] noncomputable def qQ(p:List Nat):Code:=Code.at (bk f71) p
@[simp] def ou(x:Sm)(e:EL)(O U w85 H AE:Nat)(V Y Y85 I AF AG:aH)(AH:Nat):List cJ:=[⟨300,1,bu x⟩,⟨400,1,iw e⟩,⟨450,0,.dead⟩,⟨600,0,.dead⟩,⟨750,O,V⟩,⟨800,U,Y⟩,⟨850,w85,Y85⟩,⟨950,H,I⟩,⟨1000,AH,AG⟩,⟨1150,AE,AF⟩,⟨1200,0,.dead⟩,⟨1250,0,.dead⟩]
section
variable {vs:List Vr} {lp:Bool} {x:Sm}
theorem Ng{w85:Nat}{Y85:aH}(A5:(bL x).length<100000000)(A2:∀b∈bL x,qy vs lp b)(k:Kt)(RF:EL->bZ)
 (A':∀e H I,k .ret ⟨242,aI,[(6,true,.ptr 400 1 0)],ou x e 0 0 w85 H 0 .dead .dead Y85 I .dead .dead 0⟩=RF e)
 (Z:∀H I b c,k (.exit 3) ⟨242,aI,[(0,true,.d (.list (vs.map bN))),(2,true,.d (.bool lp)),(4,true,.ptr 300 1 0),(6,true,.ptr 400 1 0),(16,true,b),(128,true,c)],ou x (0,0) 0 0 w85 H 0 .dead .dead Y85 I .dead .dead 0⟩=RF (0,0)):∀(rest pre:List (List Sm))(H:Nat)(I:aH),bL x=pre++rest->
 aO ctx 71 (.loop (qQ [1,0,1,0,1,1,1,1,1,0,1,1,0,0])) ⟨242,aI,[(0,true,.d (.list (vs.map bN))),(2,true,.d (.bool lp)),(4,true,.ptr 300 1 0),(6,true,.ptr 400 1 0),(16,true,.d (.int .i64 pre.length))],ou x (0,0) 0 0 w85 H 0 .dead .dead Y85 I .dead .dead 0⟩ k=RF (dV (gf vs lp [] rest))
 |[],pre,H,I,M=>by
  have A8:pre.length=(bL x).length:=by rw[M];simp
  have A9:gf vs lp [] []=(0,0):=by unfold gf;rfl
  simp only[ou,iw,bu]at Z;rw[A9,A8,ah];simp[qQ,f71,Z,dV]
 |b::rest,pre,H,I,M=>by
  have A0:pre.length<(bL x).length:=by rw[M];simp
  have A1:(bL x)[pre.length]=b:=by simp[M]
  have J:=A2 b (by rw[M];simp);have ih:=λH I=>Ng A5 A2 k RF A' Z rest (pre++[b]) H I (by simp[M]);have A7:IntKind.i64.wrap ((pre.length:Int)+1)=(pre.length:Int)+1:=az (by unfold bj;omega);have key:gf vs lp [] (b::rest)=fJ (eX vs lp b) (gf vs lp [] rest):=by
   conv=>lhs;unfold gf
  rw[key];clear key;unfold qy dJ at J;generalize eX vs lp b=E at*;generalize gf vs lp [] rest=F at*;have A4:=A' E;simp only[ou,iw,bu]at A4;rw[ah];by_cases D:E.1=0
  ·rw[mj D];simp[dV,D]at J;simp[qQ,f71]at ih⊢;simp[A0,A1,dz,J,A7,ih]
  ·rw[qo D];simp[dV,D]at J;simp[qQ,f71];simp[A0,A1,dz,J,D,A4,dV]
theorem anI(h:bK x=3)(A5:(bL x).length<100000000)(AI:RT vs (eh x))(A2:∀b∈bL x,qy vs lp b):RM vs lp x:=by
 have hw:=rH 1 AI;rw[rI]at hw;have AA:=λw85 Y85 k RF A' Z H I=>Ng (w85:=w85) (Y85:=Y85) A5 A2 k RF A' Z (bL x) [] H I rfl;unfold RM;rw[tX,nS (by simp)];generalize dG vs (eh x) 1=T at*;simp[dJ]at hw;by_cases D:T.1=0
 ·rw[aa4 (by omega),aa4 (by omega),abf h,mj D];generalize gf vs lp [] (bL x)=E at*;simp[qQ,f71,h]at AA;simp[f71,h,hw,D];rw[AA _ _ _ (λe=>some (.ret (dJ e),[]))]
  ·intro a b H I;simp[dJ]
  ·intro H I b c;simp[dJ]
 ·simp[f71,h,hw,D,qo D,dV,dJ]
theorem Nh(A5:(bL x).length<100000000)(AJ:(cH x).length<100000000)(AB:∀y∈cH x,RT vs y)(A2:∀b∈bL x,qy vs lp b)(k:Kt)(RF:EL->bZ)
 (A':∀e O V U Y,k .ret ⟨242,aI,[(6,true,.ptr 400 1 0)],ou x e O U 0 0 0 V Y .dead .dead .dead .dead 0⟩=RF e)
 (Z:∀O V U Y b c,k (.exit 1) ⟨242,aI,[(0,true,.d (.list (vs.map bN))),(2,true,.d (.bool lp)),(4,true,.ptr 300 1 0),(6,true,.ptr 400 1 0),(12,true,b),(83,true,c)],ou x (0,0) O U 0 0 0 V Y .dead .dead .dead .dead 0⟩=RF (0,0)):∀(rest pre:List (List Sm))(O:Nat)(V:aH)(U:Nat)(Y:aH),bL x=pre++rest->
 aO ctx 71 (.loop (qQ [1,0,1,0,1,1,1,0,1,0,0])) ⟨242,aI,[(0,true,.d (.list (vs.map bN))),(2,true,.d (.bool lp)),(4,true,.ptr 300 1 0),(6,true,.ptr 400 1 0),(12,true,.d (.int .i64 pre.length))],ou x (0,0) O U 0 0 0 V Y .dead .dead .dead .dead 0⟩ k=RF (dV (gf vs lp ((cH x).drop pre.length) rest))
 |[],pre,O,V,U,Y,M=>by
  have A8:pre.length=(bL x).length:=by rw[M];simp
  have A9:∀cs,gf vs lp cs []=(0,0):=by intro cs;unfold gf;rfl
  simp only[ou,iw,bu]at Z;rw[A9,A8,ah];simp[qQ,f71,Z,dV]
 |b::rest,pre,O,V,U,Y,M=>by
  have A0:pre.length<(bL x).length:=by rw[M];simp
  have A1:(bL x)[pre.length]=b:=by simp[M]
  have J:=A2 b (by rw[M];simp);have ih:=λO V U Y=>Nh A5 AJ AB A2 k RF A' Z rest (pre++[b]) O V U Y (by simp[M]);have A7:IntKind.i64.wrap ((pre.length:Int)+1)=(pre.length:Int)+1:=az (by unfold bj;omega);unfold qy dJ at J;have A4:=A' (eX vs lp b);simp only[ou,iw,bu]at A4;rw[ah];by_cases A3:pre.length<(cH x).length
  ·have AK:=AB _ (af8 A3);have hw:=rH 2 AK;rw[rI]at hw;have key:gf vs lp ((cH x).drop pre.length) (b::rest)=fJ (dG vs (cH x)[pre.length] 2) (fJ (eX vs lp b) (gf vs lp ((cH x).drop (pre.length+1)) rest)):=by
    rw[anR A3];conv=>lhs;unfold gf
   rw[key];clear key;have AC:=A' (dG vs (cH x)[pre.length] 2);simp only[ou,iw,bu]at AC;simp only[aa9,abb,abn,afO]at ih;generalize eX vs lp b=E at*;generalize gf vs lp ((cH x).drop (pre.length+1)) rest=F at*;generalize dG vs (cH x)[pre.length] 2=T at*;unfold dJ at hw;by_cases A6:T.1=0
   ·rw[mj A6];by_cases D:E.1=0
    ·rw[mj D];simp[dV,D]at J;simp[qQ,f71]at ih⊢;simp[A0,A1,A3,aJ,dz,hw,A6,J,A7,ih]
    ·rw[qo D];simp[dV,D]at J;simp[qQ,f71];simp[A0,A1,A3,aJ,dz,hw,A6,J,D,A4,dV]
   ·rw[qo A6];simp[qQ,f71];simp[A0,A1,A3,aJ,hw,A6,AC,dV]
  ·have AD:∀n,pre.length<=n->(cH x).drop n=[]:=λn AL=>List.drop_eq_nil_of_le (by omega);have key:gf vs lp ((cH x).drop pre.length) (b::rest)=fJ (eX vs lp b) (gf vs lp [] rest):=by
    rw[AD _ (aa7 _)];conv=>lhs;unfold gf
   rw[key];clear key;simp only[aa9,abb,abn,afO,AD (pre.length+1) (by omega)]at ih;generalize eX vs lp b=E at*;generalize gf vs lp [] rest=F at*;by_cases D:E.1=0
   ·rw[mj D];simp[dV,D]at J;simp[qQ,f71]at ih⊢;simp[A0,A1,A3,dz,J,A7,ih]
   ·rw[qo D];simp[dV,D]at J;simp[qQ,f71];simp[A0,A1,A3,dz,J,D,A4,dV]
end
section
variable {vs:List Vr} {lp:Bool} {x:Sm}
theorem anJ(h:bK x=2)(AA:(bL x).length<100000000)(U:(cH x).length<100000000)(T:∀y∈cH x,RT vs y)(AB:∀b∈bL x,qy vs lp b):RM vs lp x:=by
 have Z:=λk RF H D A3 A4 A5 A6=>Nh AA U T AB k RF H D (bL x) [] A3 A4 A5 A6 rfl;unfold RM;rw[tX,nS (by simp)];rw[aa4 (by omega),abf h];simp only[abn,List.drop_zero]at Z;generalize gf vs lp (cH x) (bL x)=E at*;simp[qQ,f71,h]at Z;simp[f71,h];rw[Z _ (λe=>some (.ret (dJ e),[]))]
 ·intro a b A3 A4 A5 A6;simp[dJ]
 ·intro A3 A4 A5 A6 b c;simp[dJ]
theorem Ni{W:aH}(U:(cH x).length<100000000)(T:∀y∈cH x,RT vs y)(k:Kt)(RF:EL->bZ)
 (H:∀(e:EL) I J,¬e.1=0->k .ret ⟨242,aI,[(6,true,.ptr 400 1 0)],ou x e 0 0 0 0 I .dead .dead .dead .dead J W 1⟩=RF e)
 (D:∀I J b c,k (.exit 5) ⟨242,aI,[(0,true,.d (.list (vs.map bN))),(4,true,.ptr 300 1 0),(6,true,.ptr 400 1 0),(20,true,b),(177,true,c)],ou x (0,0) 0 0 0 0 I .dead .dead .dead .dead J W 1⟩=RF (0,0)):∀(rest pre:List Ex)(I:Nat)(J:aH),cH x=pre++rest->
 aO ctx 71 (.loop (qQ [1,0,1,0,1,1,1,1,1,1,1,0,1,1,1,1,0,1,0,0])) ⟨242,aI,[(0,true,.d (.list (vs.map bN))),(4,true,.ptr 300 1 0),(6,true,.ptr 400 1 0),(20,true,.d (.int .i64 pre.length))],ou x (0,0) 0 0 0 0 I .dead .dead .dead .dead J W 1⟩ k=RF (dV (lM vs 1 rest))
 |[],pre,I,J,A'=>by
  have AC:pre.length=(cH x).length:=by rw[A'];simp
  simp only[ou,iw,bu]at D;rw[AC,ah];simp[qQ,f71,D,dV,lM]
 |y::rest,pre,I,J,A'=>by
  have A7:pre.length<(cH x).length:=by rw[A'];simp
  have A8:(cH x)[pre.length]=y:=by simp[A']
  have hw:=rH 1 (T y (by rw[A'];simp));rw[rI]at hw;have ih:=λI J=>Ni U T k RF H D rest (pre++[y]) I J (by simp[A']);have AD:IntKind.i64.wrap ((pre.length:Int)+1)=(pre.length:Int)+1:=az (by unfold bj;omega);have key:lM vs 1 (y::rest)=fJ (dG vs y 1) (lM vs 1 rest):=rfl;rw[key];clear key;unfold dJ at hw;generalize dG vs y 1=E at*;generalize lM vs 1 rest=F at*;rw[ah];by_cases O:E.1=0
  ·rw[mj O];simp[qQ,f71]at ih⊢;simp[A7,A8,aJ,hw,O,AD,ih]
  ·rw[qo O];have A9:=λw Y=>H E w Y O;simp only[ou,iw,bu]at A9;simp[qQ,f71];simp[A7,A8,aJ,hw,O,A9,dV]
set_option maxHeartbeats 1000000 in
theorem akq(h:bK x=4)(U:(cH x).length<100000000)(T:∀y∈cH x,RT vs y){b:List Sm}(A0:bL x=[b])(A1:qy vs true b){w:Vr}(V:bq vs (iB x)=some w)(M:ai ctx 38 [.d (.list (vs.map bN)),.d (.str (iB x))] []=some (.ret (.bg [.d (bN (fV vs (iB x))),.d (.bool (bq vs (iB x)).isSome)]),[]))(H:¬w.sec=1)(D:w.arr=false)(A2:w.ty=1):
 ai ctx 71 [.d (.list (vs.map bN)),.d (.agg (smL x)),.d (.bool lp)] []=some (.ret (dJ (dV (fJ (lM vs 1 (cH x)) (eX vs true b)))),[]):=by
 have Z:=λW k RF H D I J=>Ni (W:=W) U T k RF H D (cH x) [] I J rfl;unfold qy at A1;rw[nS (by simp)];generalize eX vs true b=F at*;generalize lM vs 1 (cH x)=E at*;simp[V,fV,bN,eV]at M;simp[qQ,f71,h,A0]at Z;simp[dJ]at A1;simp[f71,h,M,H,D,A2,A0];rw[Z _ _ (λe=>some (.ret (dJ (dV (fJ e F))),[]))]
 ·by_cases O:E.1=0
  ·simp[dV,O,fJ]
  ·simp[dV,O,fJ]
 ·intro AF AG I J O;simp[dJ,fJ,O,dV]
 ·intro I J c d;simp[dz,A1,dJ,fJ]
theorem anK(AE:vs.length<1000000)(h:bK x=4)(U:(cH x).length<100000000)(T:∀y∈cH x,RT vs y){b:List Sm}(A0:bL x=[b])(A1:qy vs true b):RM vs lp x:=by
 have M:=nV AE (iB x);unfold RM;rw[tX];rw[aa4 (by omega),aa4 (by omega),aa4 (by omega),abf h];have e:wj vs (bL x)=eX vs true b:=by rw[A0];rfl
 unfold coE;rw[e];cases V:bq vs (iB x)with
 |none=>
  rw[nS (by simp)];simp[V,fV,bN,eV,tA]at M;simp[f71,h,M,dJ,dV]
 |some w=>
  by_cases H:w.sec=1
  ·rw[nS (by simp)];simp[V,fV,bN,eV]at M;simp[f71,h,M,H,dJ,dV]
  ·by_cases D:w.arr=true
   ·rw[nS (by simp)];simp[V,fV,bN,eV]at M;simp[f71,h,M,H,D,dJ,dV]
   ·have D:w.arr=false:=by simpa using D
    by_cases A2:w.ty=1
    ·rw[akq h U T A0 A1 V M H D A2];simp only[aa4 H,D,A2];simp
    ·rw[nS (by simp)];simp[V,fV,bN,eV]at M;simp[f71,h,M,H,D,A2,dJ,dV]
end
end Go.Am
end
section
namespace Go.Am
open Go Go.Proofs
variable [Inhabited b7]
set_option maxRecDepth 20000
theorem Ht{α:Type}{l:List α}(h:l.length=1):∃a,l=[a]:=by
 match l,h with
 |[a],_=>exact⟨a,rfl⟩
section
variable {vs:List Vr} (I:vs.length<1000000)
include I
theorem afd{lp:Bool}{x:Sm}(E:jU x=true)(A1:(bL x).length<100000000)(A2:(cH x).length<100000000)(A5:(eu x).length<100000000)(U:∀b∈bL x,∀q,qy vs q b):RM vs lp x:=by
 have A6:∃op name to val conds V fields blocks line,x=.mk op name to val conds V fields blocks line:=by
  obtain⟨op,name,to,val,conds,V,fields,blocks,line⟩:=x;exact⟨op,name,to,val,conds,V,fields,blocks,line,rfl⟩
 have facts:(1<=bK x/\bK x<=9)/\(bK x=1->bz (fe x)=true)/\((bK x=1\/bK x=3\/bK x=5\/bK x=6)->bz (eh x)=true)/\bO (cH x)=true/\cF (bK x) (cH x).length (eF x).length (eu x).length (bL x).length=true:=by
  obtain⟨op,name,to,val,conds,V,fields,blocks,line,rfl⟩:=A6;simp only[jU,Ds,aa8]at E;obtain⟨A3,A9,Y,O,Z,H,AA,AB,AC⟩:=E;refine⟨A3,λJ=>?_,λJ=>?_,Z,H⟩
  ·simp only[Wv]at J;rw[abf J]at Y;simp only[Ds]at Y;exact Y.2
  ·simp only[Wv]at J;rw[abf J]at O;simp only[Ds]at O;exact O.2
 obtain⟨A3,Y,O,Z,H⟩:=facts;have A':=EA I (cH x) Z;have A7:bK x=1\/bK x=2\/bK x=3\/bK x=4\/bK x=5\/bK x=6\/bK x=7\/bK x=8\/bK x=9:=by omega
 rcases A7 with h|h|h|h|h|h|h|h|h
 ·exact anH I h (uj I _ (Y h)) (uj I _ (O (.inl h)))
 ·exact anJ h A1 A2 A' (λb D=>U b D lp)
 ·exact anI h A1 (uj I _ (O (.inr (.inl h)))) (λb D=>U b D lp)
 ·rw[h]at H;simp[cF]at H;obtain⟨b,D⟩:=Ht H.2.2.2;exact anK I h A2 A' D (U b (by rw[D];simp) true)
 ·rw[h]at H;simp[cF]at H;obtain⟨b,D⟩:=Ht H.2.2.2;exact anF h D (uj I _ (O (.inr (.inr (.inl h))))) (U b (by rw[D];simp) true)
 ·rw[h]at H;simp[cF]at H;obtain⟨b,D⟩:=Ht H.2.2.2;exact anG h D (uj I _ (O (.inr (.inr (.inr h))))) (U b (by rw[D];simp) true)
 ·exact anC h
 ·exact anD h
 ·rw[h]at H;simp[cF]at H;exact anE I h A5 H.1 A'
mutual
theorem akr:∀(x:Sm),jU x=true->QJ x<100000000->∀lp,RM vs lp x
 | .mk op name to val conds V fields blocks line,E,T,lp=>by
  have A8:cW blocks=true:=by
   simp only[jU,Ds]at E;exact E.2.2.2.2.2.2.2.2
  have AD:=LA blocks;simp only[QJ]at T;exact afd I E (by simp only[agU];omega) (by simp only[Ww];omega) (by simp only[Wx];omega) (λb D q=>Rx blocks A8 (by omega) b D q)
theorem Hu:∀(l:List Sm),eR l=true->s6 l<100000000->∀x∈l,∀lp,RM vs lp x
 |[],_,_,x,M,_=>by simp at M
 |y::r,E,T,x,M,lp=>by
  simp only[eR,Ds]at E;simp only[s6]at T;have J:=akr y E.1 (by omega);have A0:=Hu r E.2 (by omega);rcases abd.1 M with h|M
  ·rw[h];exact J lp
  ·exact A0 x M lp
theorem Rx:∀(bs:List (List Sm)),cW bs=true->xu bs<100000000->∀b∈bs,∀q,qy vs q b
 |[],_,_,b,D,_=>by simp at D
 |c::r,E,T,b,D,q=>by
  simp only[cW,Ds]at E;simp only[xu]at T;have AE:=Ea c;have J:=Hu c E.1 (by omega);have A0:=Rx r E.2 (by omega);rcases abd.1 D with h|D
  ·rw[h];exact Nb (by omega) (λx M=>J x M q)
  ·exact A0 b D q
end
end
theorem Yv{p:Pg}(E:qi p=true)(T:s6 p.body<100000000):ai ctx 15 [.d (.agg [.str p.name,.list (p.vars.map bN),.list (p.body.map cq)])] []=some (.ret (dJ (dV (qj p))),[]):=by
 have A4:=E;simp only[qi,Ds,aa8,adA]at A4;obtain⟨_,AF,AG,D⟩:=A4;have AH:=Ea p.body;exact aaW E (Nb (by omega) (λx M=>Hu (by omega) p.body D T x M false))
end Go.Am
end
section
namespace Go.Am
open Go
theorem cell_of{cells a:Int}(h:gu cells a 1=true):0<=a/\a<cells:=by
 unfold gu at h;simp only[Ds,aa8]at h;omega
def aks(l:List au)(v c:Int):Prop:=
 1<=l.length/\l.length<=4096/\v<=c/\(∀x,l[l.length-1]?=some x->x.op=15)/\
 ∀(i:Nat) x,l[i]?=some x->((x.op=9\/x.op=10)->0<=x.a/\x.a<l.length)/\(x.op=15->i=l.length-1)/\((x.op=2\/x.op=3\/x.op=6\/x.op=14)->0<=x.a/\x.a<c)
theorem UM{p:Pg}(I:qi p=true)(J:iQ p.body=true)(M:(qj p).1=0){l:List au}{v c:Int}(h:BT p=some (l,v,c)):aks l v c:=by
 obtain⟨⟨_,_,_,O⟩,r,st,D⟩:=aeC (Ye I J M h);refine⟨D.len.1,D.len.2,O,D.last,λi x E=>⟨λT=>?_,λU=>?_,λV=>?_⟩⟩
 ·have:=D.tgt E T;omega
 ·have:=(D.Q5 E).1 U;omega
 ·have H:=D.form i x E;unfold dx at H;have:gu c x.a 1=true:=by
   rcases V with e|e|e|e<;>simpa [e]using H
  exact cell_of this
end Go.Am
end
section
namespace Go.Am
open Go Go.Proofs
variable [Inhabited b7]
set_option maxRecDepth 20000
@[simp] def iD(l:List Nat):List D:=l.map λ(n:Nat)=>D.int .i64 (n:Int)
section
variable (ins:List au) (vars cells:Int) (E H:Nat) (S T:List D)
end
@[simp] def aAV(ins:List au)(vars cells:Int):D:=.agg [.list (ins.map dy),.int .i64 vars,.int .i64 cells]
theorem afe(x y:au):x=y↔x.op=y.op/\x.a=y.a/\x.b=y.b/\x.n=y.n/\x.m=y.m:=by
 constructor
 ·rintro rfl;simp
 ·intro h;cases x;cases y;simp_all
instance:DecidableEq au:=λx y=>decidable_of_iff _ (afe x y).symm
end Go.Am
end
section
namespace Go.Am
open Go Go.Proofs Go.Proofs.Tryz
variable [Inhabited b7]
set_option maxRecDepth 20000
theorem anL(e:EL):(dV e).1=0↔e.1=0:=by
 unfold dV;split<;>simp[*]
theorem aaX{p:Pg}(O:iQ p.body=true)(hw:ek (pK p)<10000000):∃b,ai ctx 24 [.d (pK p)] []=some (.ret (.d (.bool b)),[])/\(b=true->MX p):=by
 obtain⟨I,J,T⟩:=LM (p:=p) (by simp only[pK]at hw;omega);obtain⟨B,H⟩:=aer I J;have D:=aiT I J;cases B with
 |false=>
  refine⟨false,?_,by simp⟩;rw[Uj (by simp)];simp[f24,H]
 |true=>
  cases E:qi p with
  |false=>
   rw[E]at D;refine⟨false,?_,by simp⟩;rw[Uj (by simp)];simp[f24,H,D]
  |true=>
   rw[E]at D;have M:=Yv E (by omega);unfold dJ at M;refine⟨decide ((qj p).1=0),?_,λh=>⟨E,O,by simpa using h,hw⟩⟩;rw[Uj (by simp)];simp[f24,H,D,M,anL]
end Go.Am
end
section
namespace Go.Am
open Go Go.Proofs Go.Proofs.Tryz
variable [Inhabited b7]
set_option maxRecDepth 20000
set_option maxHeartbeats 1000000
theorem Ry(l:List au)(A0:l.length<=5000)(v c:Int)(v1:Nat)(U:aH)(A5:∀(i:Nat) x,l[i]?=some x->((x.op=9\/x.op=10)->0<=x.a/\x.a<l.length)/\(x.op=15->i=l.length-1)/\((x.op=2\/x.op=3\/x.op=6\/x.op=14)->0<=x.a/\x.a<c))(k:Kt)(R:bZ)
 (V:∀(Y:Env) M,k (.exit 0) ⟨95,aI,Y,M⟩=R):∀(rest pre:List au)(v4:Nat)(D:aH),l=pre++rest->
 aO ctx 6 (.loop (Code.at (bk f6) [1,1,1,1,1,1,1,0,1,0,0])) ⟨95,aI,[(3,true,.ptr 250 1 0),(5,true,.d (.int .i64 l.length)),(6,true,.d (.int .i64 pre.length))],[⟨150,v1,U⟩,⟨250,1,.box [.d (.list (l.map dy)),.d (.int .i64 v),.d (.int .i64 c)]⟩,⟨450,v4,D⟩]⟩ k=R
 |[],pre,v4,D,E=>by
  have E:l=pre:=by simpa using E
  subst E;rw[ah];simp[f6,V]
 |x::rest,pre,v4,D,E=>by
  have H:pre.length<l.length:=by rw[E];simp
  have I:l[pre.length]=x:=by simp[E]
  have ih:=λv4 D=>Ry l A0 v c v1 U A5 k R V rest (pre++[x]) v4 D (by simp[E]);obtain⟨f1,f2,f3⟩:=A5 pre.length x (by rw[adv H,I]);have O:IntKind.i64.wrap ((pre.length:Int)+1)=(pre.length:Int)+1:=az (by unfold bj;omega);have A1:IntKind.i64.wrap ((l.length:Int)-1)=(l.length:Int)-1:=az (by unfold bj;omega);rw[ah];simp[f6]at ih⊢;by_cases T:x.op=9
  ·have g:=f1 (.inl T);have g1:¬x.a<0:=by omega
   have g2:¬(l.length:Int)<=x.a:=by omega
   simp[H,I,T,g1,g2,O,aw,ih]
  by_cases Z:x.op=10
  ·have g:=f1 (.inr Z);have g1:¬x.a<0:=by omega
   have g2:¬(l.length:Int)<=x.a:=by omega
   simp[H,I,T,Z,g1,g2,O,aw,ih]
  by_cases A2:x.op=15
  ·have g:=f2 A2;have g1:(pre.length:Int)=(l.length:Int)-1:=by omega
   have A7:IntKind.i64.wrap (pre.length:Int)=pre.length:=az (by unfold bj;omega);simp[H,I,T,Z,A2,O,A1,<-g1,A7,aw,ih]
  by_cases y:x.op=2\/x.op=3\/x.op=6\/x.op=14
  ·have g:=f3 y;have g1:¬x.a<0:=by omega
   have g2:¬c<=x.a:=by omega
   rcases y with h|h|h|h<;>simp[H,I,h,g1,g2,O,aw,ih]
  ·simp only[anS]at y;obtain⟨A8,a2,a3,a4⟩:=y;simp[H,I,T,Z,A2,A8,a2,a3,a4,O,aw,ih]
theorem Hv{p:Pg}(A0:iQ p.body=true)(hw:ek (pK p)<10000000)(A3:ai ctx 23 [] []=some (.ret (.d (.bool true)),[])):ai ctx 6 [.d (pK p)] []=some (.ret (.d (.bool true)),[]):=by
 obtain⟨b,A',A9⟩:=aaX A0 hw;rw[atc (by simp)];try simp at A'
 cases b with
 |false=>simp[f6,A3,A']
 |true=>
  have h:=A9 rfl;have J:=MY h;cases A4:BT p with
  |none=>
   rw[A4]at J;simp[cdD,cdE]at J;simp[f6,A3,A',J]
  |some g=>
   obtain⟨l,v,c⟩:=g;obtain⟨s1,s2,AE,AA,AB⟩:=UM h.fit h.lit h.Yq A4;rw[A4]at J;simp[cdD,cdE]at J;have A6:=λv1 U k R V v4 D=>Ry l (by omega) v c v1 U AB k R V l [] v4 D rfl;have g0:¬(l.length:Int)=0:=by omega
   have AC:¬l.length=0:=by omega
   have AD:l≠[]:=λh=>by rw[h]at s1;simp at s1
   have g1:¬(4096:Int)<l.length:=by omega
   have g2:l.length-1<l.length:=by omega
   have g3:l[l.length-1].op=15:=AA _ (adv g2);have A1:IntKind.i64.wrap ((l.length:Int)-1)=((l.length-1:Nat):Int):=by rw[show (l.length:Int)-1=((l.length-1:Nat):Int) by omega];exact az (by unfold bj;omega)
   have g4:¬c<v:=by omega
   simp[f6]at A6;simp[f6,A3,A',J,g0,AC,AD,g1,g2,g3,g4,A1];refine A6 _ _ _ _ (λY M=>?_) _ _;simp
end Go.Am
end
section
namespace Go.Am
open Go
set_option maxRecDepth 20000
def aur:Nat->Nat
 |99=>207
 |143=>209
 |206=>253
 |217=>254
 |219=>255
 |224=>285
 |225=>284
 |266=>283
 |267=>286
 |314=>307
 |_=>0
def aus:Nat->Nat
 |3=>3
 |4=>4
 |5=>5
 |9=>9
 |46=>327
 |51=>285
 |146=>338
 |_=>0
def aut:Nat->Nat
 |1=>2
 |_=>0
def rho:Go.Shelf.Ren:=⟨aur,aus,aut⟩
theorem aff:Go.Proofs.Lays.n143 Go.Proofs.Tryz.prog rho where
 mixed:=by kernel_rfl
 f143:=by kernel_rfl
 f217:=by kernel_rfl
 f219:=by kernel_rfl
 f224:=by kernel_rfl
 f225:=by kernel_rfl
 f266:=by kernel_rfl
 f267:=by kernel_rfl
 f314:=by kernel_rfl
 t3:=by kernel_rfl
 a3:=by intro w;kernel_rfl
 z3:=by intro w;kernel_rfl
 v3:=by intro w;kernel_rfl
 t4:=by kernel_rfl
 a4:=by intro w;kernel_rfl
 z4:=by intro w;kernel_rfl
 v4:=by intro w;kernel_rfl
 t5:=by kernel_rfl
 a5:=by intro w;kernel_rfl
 z5:=by intro w;kernel_rfl
 v5:=by intro w;kernel_rfl
 t9:=by kernel_rfl
 a9:=by intro w;kernel_rfl
 z9:=by intro w;kernel_rfl
 v9:=by intro w;kernel_rfl
 t46:=by kernel_rfl
 a46:=by intro w;kernel_rfl
 z46:=by intro w;kernel_rfl
 v46:=by intro w;kernel_rfl
 t51:=by kernel_rfl
 a51:=by intro w;kernel_rfl
 z51:=by intro w;kernel_rfl
 v51:=by intro w;kernel_rfl
 t146:=by kernel_rfl
 a146:=by intro w;kernel_rfl
 z146:=by intro w;kernel_rfl
 v146:=by intro w;kernel_rfl
 g1:=by kernel_rfl
theorem afg:Go.Proofs.Lays.n217 Go.Proofs.Tryz.prog rho where
 mixed:=by kernel_rfl
 f217:=by kernel_rfl
 f266:=by kernel_rfl
 t3:=by kernel_rfl
 a3:=by intro w;kernel_rfl
 z3:=by intro w;kernel_rfl
 v3:=by intro w;kernel_rfl
 t5:=by kernel_rfl
 a5:=by intro w;kernel_rfl
 z5:=by intro w;kernel_rfl
 v5:=by intro w;kernel_rfl
 t9:=by kernel_rfl
 a9:=by intro w;kernel_rfl
 z9:=by intro w;kernel_rfl
 v9:=by intro w;kernel_rfl
theorem akv:Go.Proofs.Lays.n99 Go.Proofs.Tryz.prog rho where
 mixed:=by kernel_rfl
 f99:=by kernel_rfl
 f206:=by kernel_rfl
 t3:=by kernel_rfl
 a3:=by intro w;kernel_rfl
 z3:=by intro w;kernel_rfl
 v3:=by intro w;kernel_rfl
 t4:=by kernel_rfl
 a4:=by intro w;kernel_rfl
 z4:=by intro w;kernel_rfl
 v4:=by intro w;kernel_rfl
 t9:=by kernel_rfl
 a9:=by intro w;kernel_rfl
 z9:=by intro w;kernel_rfl
 v9:=by intro w;kernel_rfl
end Go.Am
end
section
namespace Go.Am
open Go Go.Proofs
variable [Inhabited b7]
set_option maxRecDepth 20000
theorem xz{P:Program}{g:FuncId}{fn:Func}(Y:P.funcs[g]?=some fn)(Z:fn.body.isSome=true)(A':(fn.name == "runtime.NumGoroutine")=false):ib P g=true:=by
 unfold ib;rw[Y];simp only[Z,A'];rfl
theorem yD{w F s v}(h:aQ w F (.str s) v):∃b:ByteArray,v=.string b/\b.data.toList=s:=by
 cases h with
 |str b s h=>exact⟨b,rfl,h⟩
theorem Rz{w F k n v}(h:aQ w F (.int k n) v):v=.int k n:=by cases h;rfl
theorem EB{T:List D}{a b:D}{w F}{vs:Array Value}(E:T=[a,b])(J:T.length=vs.size)(H:∀(i:Nat) x v,T[i]?=some x->vs[i]?=some v->aQ w F x v):
 ∃x y,vs=#[x,y]/\aQ w F a x/\aQ w F b y:=by
 subst E;obtain⟨l⟩:=vs;match l,J with
 |[x,y],_=>exact⟨x,y,rfl,H 0 a x rfl rfl,H 1 b y rfl rfl⟩
theorem afh{w:World}{F}(M:fg w F aI):∃m,w.cell? ⟨2,0,none⟩=some (.int .i64 m):=by
 obtain⟨_,_,A1,I,O⟩:=M (2,.int .i64 (id (α:=Int) (default:b7))) (by simp[aI]);generalize id (α:=Int) (default:b7)=z at I;obtain rfl:=Rz I;exact⟨z,O 0 _ (by simp[Value.cells])⟩
theorem anM:rZ ctx 207 (oX WB):=by
 refine rZ.lift ⟨xz Tryz.func207 (by kernel_rfl) (by kernel_rfl),λT d E F w vs M V J H=>?_⟩;unfold WB at E;split at E
 ·rename_i s p;obtain⟨x,y,rfl,I,O⟩:=EB rfl J H;obtain⟨a,rfl,rfl⟩:=yD I;obtain⟨b,rfl,rfl⟩:=yD O;refine (Any.strings_HasPrefix akv a b w).mono ?_;rintro e w' ⟨rfl,rfl⟩;cases E;exact⟨_,rfl,Go.RowKit.Below.refl _ _,.bool _⟩
 ·cases E
theorem anN:rZ ctx 254 (oX WA):=by
 refine rZ.lift ⟨xz Tryz.func254 (by kernel_rfl) (by kernel_rfl),λT d E F w vs M V J H=>?_⟩;unfold WA at E;split at E
 ·rename_i s p;obtain⟨x,y,rfl,I,O⟩:=EB rfl J H;obtain⟨a,rfl,rfl⟩:=yD I;obtain rfl:=Rz O;refine (Any.stringslite_IndexByte afg a _ w).mono ?_;rintro e w' ⟨rfl,rfl⟩;cases E;exact⟨_,rfl,Go.RowKit.Below.refl _ _,.int _ _⟩
 ·cases E
theorem akw:rZ ctx 209 (oX Lk):=by
 refine rZ.lift ⟨xz Tryz.func209 (by kernel_rfl) (by kernel_rfl),λT d E F w vs M V J H=>?_⟩;unfold Lk at E;split at E
 ·rename_i s p;split at E
  ·rename_i A0;obtain⟨x,y,rfl,I,O⟩:=EB rfl J H;obtain⟨a,rfl,rfl⟩:=yD I;obtain⟨b,rfl,rfl⟩:=yD O;obtain⟨m,hm⟩:=afh M;refine (Any.strings_Index aff a b m w (by simpa using A0) hm).mono ?_;rintro e w' ⟨rfl,rfl⟩;cases E;exact⟨_,rfl,Go.RowKit.Below.refl _ _,.int _ _⟩
  ·cases E
 ·cases E
theorem afi:∀g h,ctx.Ah g=some h->rZ ctx g h:=by
 intro g h M;have U:Z5 g=some h:=M;unfold Z5 at U;split at U;all_goals first|(cases U;first|exact anM|exact anN|exact akw)|cases U
end Go.Am
end
section
namespace Go.Am
open Go
theorem Nj{P:Program}{w:World}{n:String}{d:DataW Unit}:∀{l:List (String×DataW Unit)}{ps:List MemPlace},DataW.LaidVars P w l ps->(n,d)∈l->
 ∃g t cs fuel p,P.globalNamed n=some g/\(P.globals[g]?).map (·.type)=some t/\w.var? P n=some cs/\DataW.trod (λ_=>()) P w 0 (λ_=>true) false fuel t cs.toList=some (d,p)
 |[],_,_,hm=>by simp at hm
 |(AE,AF)::r,ps,⟨g,t,cs,fuel,p,q,U,M,E,O,T,_⟩,hm=>by
  rcases abd.1 hm with hm|hm
  ·cases hm;exact⟨g,t,cs,fuel,p,U,M,E,O⟩
  ·exact Nj T hm
theorem Yw{H:Type}{enc:TypeId×Value->H}{P:Program}{w:World}{base:Nat}{sp:Nat->Bool}{held:Bool}{fuel:Nat}{t e:TypeId}{n:Nat}{k:IntKind}{cs:List Value}{Y:List (DataW H)}{p:List MemPlace}
 (Z:P.underlying t=some (.array n e)) (he:P.underlying e=some (.int k)) (y:P.cellsOf e=1) (h:DataW.trod enc P w base sp held fuel t cs=some (.agg Y,p)):
 cs.length=P.cellsOf t/\Y.length=n/\∀i,i<n->∃z,cs[i]?=some (.int k z)/\Y[i]?=some (.lit (.int k z)):=by
 cases fuel with
 |zero=>simp[DataW.trod]at h
 |succ m=>
  unfold DataW.trod at h;rw[Z]at h;simp only at h;split at h
  ·rename_i A';simp only[aba,adI,DataW.agg.injEq]at h;obtain⟨xs,A2,rfl,_⟩:=h;have U:xs.length=n:=by simpa using mapM_some_length A2
   refine⟨A',by simpa using U,λi hi=>?_⟩;have M:=mapM_some_get A2 i i (by simp[hi]);have E:i<xs.length:=by omega
   have O:xs[i]?=some xs[i]:=by simp[E]
   rw[O,y]at M;obtain⟨z,T,A0,_⟩:=DataW.trod_int he M;refine⟨z,?_,by simp[O,A0]⟩;have V:=agt (·[0]?) T;simpa [ads,adK]using V
  ·cases h
theorem Nk{P:Program}{W:World}{l:List (String×DataW Unit)}{name:String}{g:Nat}{t e:TypeId}{n:Nat}{k:IntKind}{zs:List Int}
 (A':laidMet P l W) (hm:(name,DataW.agg (zs.map λz=>.lit (.int k z)))∈l) (A1:P.globalNamed name=some g) (A9:(P.globals[g]?).map (·.type)=some t)
 (Z:P.underlying t=some (.array n e)) (he:P.underlying e=some (.int k)) (y:P.cellsOf e=1) (AG:0<n) (AA:P.cellsOf t=n):
 (g<W.heap.size/\∀cs,D.agg (zs.map λz=>.int k z)=.agg cs->∃cur e A3,W.heap[g]?=some (.cells cur e A3)/\cur.size=cs.length)/\∃A4,aQ W (λ_=>False) (.agg (zs.map λz=>.int k z)) A4/\∀(i:Nat)(c:Value),A4.cells[i]?=some c->W.cell? ⟨g,i,none⟩=some c:=by
 obtain⟨ps,J,_⟩:=A';obtain⟨AH,AI,cs,fuel,p,U,M,E,O⟩:=Nj J hm;obtain rfl:=Option.some.inj (A1.symm.trans U);obtain rfl:=Option.some.inj (A9.symm.trans M);obtain⟨A5,T,A0⟩:=Yw Z he y O;rw[AA]at A5;simp at T;have V:∀i z,zs[i]?=some z->W.cell? ⟨g,i,none⟩=some (.int k z):=by
  intro i z I;have hi:i<n:=by
   have:=(aa1.1 I).1;omega
  obtain⟨AB,AC,A6⟩:=A0 i hi;simp[I]at A6;subst A6;rw[World.var?_cell A1 E i];simpa using AC
 refine⟨⟨?_,?_⟩,.agg (zs.map λz=>Value.int k z).toArray,?_,?_⟩
 ·have I:∃z,zs[0]?=some z:=⟨zs[0]'(by omega),by simp[show 0<zs.length by omega]⟩
  obtain⟨z,I⟩:=I;exact (Eb (V 0 z I)).1
 ·rintro AJ AD;obtain rfl:=D.agg.inj AD;unfold World.var? at E;rw[A1]at E;simp only[adV]at E;split at E
  ·rename_i cur e' A3 hh;cases E;exact⟨_,_,_,hh,by simp at T A5⊢;omega⟩
  ·cases E
 ·refine aQ.pk (by simp) (λv J=>?_) (λi c v A7 J=>?_)
  ·simp at J;obtain⟨z,_,rfl⟩:=J;rfl
  ·simp only[adz,aba]at A7 J;obtain⟨z,I,rfl⟩:=A7;obtain⟨AB,A8,rfl⟩:=J;rw[I]at A8;cases A8;exact .int k z
 ·intro i c hi;simp[Value.cells]at hi;obtain⟨z,I,rfl⟩:=hi;exact V i z I
end Go.Am
end
section
namespace Go.Am
open Go
variable {H:Type} {enc:TypeId×Value->H}
theorem UN{a:Assume}{C:Checked}{os:Os}{f:FuncId}{fn:Func}{s:OpenSpec}{k:(H:Type)->List (DataW H)->Bool}(I:s.cond=some k){conds:List PathCond}{apart fresh handsOn again:Bool}{X:World->Array Value->Prop}{F:Stop.Interp}
 (J:∀(w w':World)(args:Array Value),w.heap=w'.heap->X w args->X w' args)
 (own:ownKnob C.prog.godebug=none) (started:os.Started) (y:C.prog.inits.idxOf? f=none) (A':C.prog.funcs[f]?=some fn)
 (witness:∃(w:World)(tape:Tape)(i:Input),w.os=os/\(w.forCall tape i).Shaped C.prog/\i.vars=[]/\Input.okWide C.prog (w.forCall tape i) .any w.heap.size f i/\
  ((s.pre enc C.prog fn conds apart (w.forCall tape i).memory i.args/\X (w.forCall tape i).memory i.args)/\sizedMet enc C.prog fn s apart (w.forCall tape i).memory i.args)/\a.holds C.prog (lone (Frame.enter C.prog f i.args .normal) [] (w.forCall tape i)))
 (A0:∀(W:World)(base:Nat)(args:Array Value)(O gs:List (DataW H))(before:List MemPlace),
  (∀(j:Nat) t v,fn.params[j]?=some t->args[j]?=some v->Value.okWide C.prog W .any base t v)->
  DataW.Whole enc C.prog fn.params.toList s.vars apart W args.toList O gs before->k H (O++gs)=true->X W args->W.ShapedOpen C.prog->
  Calls C.prog f args W λe Z=>∃v,e=.returned v/\(s.at F).post enc C.prog fn apart fresh handsOn again W args v Z):
 ReturnsInHanded a C os f .any (λw args=>(s.pre enc C.prog fn conds apart w args/\X w args)/\sizedMet enc C.prog fn s apart w args) ((s.at F).post enc C.prog fn apart fresh handsOn again):=by
 refine returnsInHanded_of_calls own started y witness ?_;intro w tape i _ M _ E A1 _;obtain⟨_,_,_,A2,A3,_,_,_,_,A4⟩:=E;have e:A2=fn:=Option.some.inj (A3.symm.trans A');subst e;obtain⟨⟨T,D⟩,A7⟩:=A1;obtain⟨O,gs,before,hw,A8,U⟩:=(OpenSpec.pre_some I conds apart _ _).1 T;have A5:=DataW.Whole.of_heap (w':=w.forCall tape i) (by rfl) hw;refine (A0 (w.forCall tape i) w.heap.size i.args O gs before A4 A5 U (J _ _ _ (by rfl) D) M).mono λe Z ⟨v,he,T⟩=>?_;subst he;exact ChangeSpec.post_blind T
theorem GC{C:Checked}{os:Os}{f:FuncId}{fn:Func}{s:OpenSpec}{k:(H:Type)->List (DataW H)->Bool}(I:s.cond=some k){conds:List PathCond}{apart:Bool}{X:World->Array Value->Prop}(modest:Bool)(w0:World)(args:Array Value)(fuel:Nat)(V:w0.os=os)
 (M:(w0.forCall (λ_ _=>0) ⟨#[],args,[]⟩).Shaped C.prog)
 (E:Input.okWideB C.prog (w0.forCall (λ_ _=>0) ⟨#[],args,[]⟩) f ⟨#[],args,[]⟩=true)
 {x:List (DataW H)×List (DataW H)×List MemPlace} (D:DataW.whole enc C.prog (w0.forCall (λ_ _=>0) ⟨#[],args,[]⟩).memory fn.params.toList s.vars apart args.toList fuel=some x)
 (A6:conds.all (PathCond.test C.prog ⟨fn.params.toList,x.1,s.bare.plain.varTypes C.prog,x.2.1⟩)=true) (U:k H (x.1++x.2.1)=true)
 (Y:s.bare.sizedB enc C.prog fn apart (w0.forCall (λ_ _=>0) ⟨#[],args,[]⟩).memory args fuel=true)
 (J:X (w0.forCall (λ_ _=>0) ⟨#[],args,[]⟩).memory args):
 ∃(w:World)(tape:Tape)(i:Input),w.os=os/\(w.forCall tape i).Shaped C.prog/\i.vars=[]/\Input.okWide C.prog (w.forCall tape i) .any w.heap.size f i/\
  ((s.pre enc C.prog fn conds apart (w.forCall tape i).memory i.args/\X (w.forCall tape i).memory i.args)/\sizedMet enc C.prog fn s apart (w.forCall tape i).memory i.args)/\({modest:=modest}:Assume).holds C.prog (lone (Frame.enter C.prog f i.args .normal) [] (w.forCall tape i)):=
 ⟨w0,λ_ _=>0,⟨#[],args,[]⟩,V,M,(Input.okWide_of_okWideB (base:=0) E).1,(Input.okWide_of_okWideB E).2,
  ⟨⟨(OpenSpec.pre_some I conds apart _ _).2 ⟨x.1,x.2.1,x.2.2,DataW.Whole_of_whole D,A6,U⟩,J⟩,sizedMet_of_sizedB Y⟩,by
  simp only[Assume.holds];exact⟨by simp,by simp,λ_=>Modest.zero,by simp,by simp⟩⟩
def Yx{H:Type}(enc:TypeId×Value->H)(P:Program)(s:OpenSpec)(k:(H:Type)->List (DataW H)->Bool)(conds:List PathCond)(apart:Bool)(w:World)(ts:List TypeId)(args:List Value)(fuel:Nat):Bool:=
 match DataW.whole enc P w ts s.vars apart args fuel with
 |some x=>conds.all (PathCond.test P ⟨ts,x.1,s.bare.plain.varTypes P,x.2.1⟩)&&k H (x.1++x.2.1)
 |none=>false
theorem GD{C:Checked}{os:Os}{f:FuncId}{fn:Func}{s:OpenSpec}{k:(H:Type)->List (DataW H)->Bool}(I:s.cond=some k){conds:List PathCond}{apart:Bool}{X:World->Array Value->Prop}(modest:Bool)(w0:World)(args:Array Value)(fuel:Nat)(V:w0.os=os)
 (M:(w0.forCall (λ_ _=>0) ⟨#[],args,[]⟩).Shaped C.prog)
 (E:Input.okWideB C.prog (w0.forCall (λ_ _=>0) ⟨#[],args,[]⟩) f ⟨#[],args,[]⟩=true)
 (D:Yx enc C.prog s k conds apart (w0.forCall (λ_ _=>0) ⟨#[],args,[]⟩).memory fn.params.toList args.toList fuel=true)
 (Y:s.bare.sizedB enc C.prog fn apart (w0.forCall (λ_ _=>0) ⟨#[],args,[]⟩).memory args fuel=true)
 (J:X (w0.forCall (λ_ _=>0) ⟨#[],args,[]⟩).memory args):
 ∃(w:World)(tape:Tape)(i:Input),w.os=os/\(w.forCall tape i).Shaped C.prog/\i.vars=[]/\Input.okWide C.prog (w.forCall tape i) .any w.heap.size f i/\
  ((s.pre enc C.prog fn conds apart (w.forCall tape i).memory i.args/\X (w.forCall tape i).memory i.args)/\sizedMet enc C.prog fn s apart (w.forCall tape i).memory i.args)/\({modest:=modest}:Assume).holds C.prog (lone (Frame.enter C.prog f i.args .normal) [] (w.forCall tape i)):=by
 unfold Yx at D;split at D
 ·rename_i x hw;simp only[Ds]at D;exact GC I modest w0 args fuel V M E hw D.1 D.2 Y J
 ·cases D
end Go.Am
end
