/-
  Texts of one proof, one behind the other.
-/
import Derived.Test.YtogaccfhfhdfpaaGreatDoorC1
import Derived.Test.YtogaccfhfhdfpaaGreatDoorC2
import Derived.Test.YtogaccfhfhdfpaaGreatDoorC3
import Derived.Test.YtogaccfhfhdfpaaGreatDoorC4
import Derived.Test.YtogaccfhfhdfpaaGreatDoorC5
import Derived.Test.YtogaccfhfhdfpaaGreatDoorC6
import Derived.Test.YtogaccfhfhdfpaaGreatDoorC7
import Derived.Test.YtogaccfhfhdfpaaGreatDoorC8
import Derived.Test.YtogaccfhfhdfpaaGreatDoorC10
import Derived.Test.YtogaccfhfhdfpaaGreatDoorC11
import Derived.KernelRfl
set_option linter.all false
section
namespace Go.Am
open Go Go.Proofs Go.Proofs.Tryz
variable [Inhabited bP]
set_option maxRecDepth 100000
set_option maxHeartbeats 8000000
def pB(L:List gn)(s:PS):List AV:=[.d (.list (L.map sX)),.d (.int .i64 s.at_),.d (.int .i64 s.deep),.vec 1 0 0 s.vars.length]
def pC(L:List gn)(s:PS):List aE:=[.box (pB L s),.vec 8 (s.vars.map bx)]
def Ax(L:List gn)(s:PS):List (Nat×aE):=[(0,.box (pB L s)),(0,.vec 8 (s.vars.map bx))]
def fD(e:Er):D:=.agg [.int .i64 e.e,.int .i64 0,.str [],.int .i64 0,.int .i64 e.line,.int .i64 e.Ir]
def uV(L:List gn)(e:Er)(s:PS):bU:=some (.panic 148 (fD e),Ax L s)
section
variable {L:List gn} {s:PS}
@[simp] theorem atg(a b:Tx):(a == b)=decide (a=b):=by by_cases h:a=b<;>simp[h]
@[simp] theorem ava{β:Type}{b:Bool}{x y:β}:(if b=false then x else y)=if b=true then y else x:=by cases b<;>rfl
end
section
variable {L:List gn} {s:PS} (E:L.length<1000000)
include E
end
structure Sh where
 k:Int
 name:Tx
 ins:Tx
 outs:Tx
 n:Int
@[simp] def shD(x:Sh):D:=.agg [.int .i64 x.k,.str x.name,.str x.ins,.str x.outs,.int .i64 x.n]
def alZ:List Nat:=[189,193,190,187,127,128,230,232,276,277,257,192,283,281]
structure aie(L:List gn)(D:bN)(f:Nat):Prop where
 le:∀g a c r,D g a c=some r->ak ctx g a c=some r
 out:∀g,alZ.contains g=true->D g=ak ctx g
 level:∀n s,D 278 [.ptr 0 0 0,.d (.int .i64 (n:Nat))] (pC L s)=(xg L f n s).el (λx s=>some (.ret (.d (bJ x)),Ax L s)) (uV L)
 unary:∀s,D 282 [.ptr 0 0 0] (pC L s)=(Ac L f s).el (λx s=>some (.ret (.d (bJ x)),Ax L s)) (uV L)
 IC:∀s,D 285 [.ptr 0 0 0] (pC L s)=(Ad L f s).el (λx s=>some (.ret (.d (bJ x)),Ax L s)) (uV L)
 index:∀s,D 263 [.ptr 0 0 0] (pC L s)=(Ae L f s).el (λx s=>some (.ret (.d (bJ x)),Ax L s)) (uV L)
 expr:∀s,D 261 [.ptr 0 0 0] (pC L s)=(nb L f s).el (λx s=>some (.ret (.d (bJ x)),Ax L s)) (uV L)
section
variable {L:List gn} {s:PS} {D:bN} {f:Nat} (E:L.length<1000000) (F:aie L D f)
include E F
end
structure apu(L:List gn)(D:bN)(f:Nat):Prop where
 E:aie L D f
 block:∀ws s,ws.length<1000->D 130 [.ptr 0 0 0,.d (.list (ws.map .str))] (pC L s)=(pU L f ws s).el (λl s=>some (.ret (.d (.list (l.map bZ))),Ax L s)) (uV L)
 stmt:∀s,D 194 [.ptr 0 0 0] (pC L s)=(EC L f s).el (λx s=>some (.ret (.d (bZ x)),Ax L s)) (uV L)
 eY:∀s,D 231 [.ptr 0 0 0] (pC L s)=(Iw L f s).el (λx s=>some (.ret (.d (bZ x)),Ax L s)) (uV L)
 BE:∀s,D 258 [.ptr 0 0 0] (pC L s)=(uz L f s).el (λx s=>some (.ret (.d (bZ x)),Ax L s)) (uV L)
 cases:∀s,D 259 [.ptr 0 0 0] (pC L s)=(DL L f s).el (λx s=>some (.ret (.d (bZ x)),Ax L s)) (uV L)
 EG:∀s,D 260 [.ptr 0 0 0] (pC L s)=(xh L f s).el (λx s=>some (.ret (.d (bZ x)),Ax L s)) (uV L)
 call:∀H s,D 262 [.ptr 0 0 0,.d (.str H)] (pC L s)=(Ix L f H s).el (λx s=>some (.ret (.d (bZ x)),Ax L s)) (uV L)
section
variable {L:List gn} {s:PS} {D:bN} {f:Nat} (I:L.length<1000000) (F:apu L D f)
include I F
end
inductive TA where
 |level (n:Nat) (s:PS)
 |unary (s:PS)
 |IC (s:PS)
 |index (s:PS)
 |expr (s:PS)
 |block (ws:List Tx) (s:PS)
 |stmt (s:PS)
 |eY (s:PS)
 |BE (s:PS)
 |cases (s:PS)
 |EG (s:PS)
 |call (D:Tx) (s:PS)
def TA.args:TA->List AV
 | .level n _=>[.ptr 0 0 0,.d (.int .i64 n)]
 | .block ws _=>[.ptr 0 0 0,.d (.list (ws.map .str))]
 | .call D _=>[.ptr 0 0 0,.d (.str D)]
 |_=>[.ptr 0 0 0]
def TA.st:TA->PS
 | .level _ s=>s
 | .unary s=>s
 | .IC s=>s
 | .index s=>s
 | .expr s=>s
 | .block _ s=>s
 | .stmt s=>s
 | .eY s=>s
 | .BE s=>s
 | .cases s=>s
 | .EG s=>s
 | .call _ s=>s
def Zu{n:Int}(D:0<=n)(E:n<=255):IntKind.u8.wrap n=n:=by
 simp[IntKind.wrap,IntKind.bits,IntKind.signed];omega
def IP(c:UInt8):ak ctx 180 [.d (.int .u8 c.toNat)] []=some (.ret (.d (.bool (sW c))),[]):=by
 rw[ag5 (by simp)];simp[f180,ai];grind [sW]
def DW(c:UInt8):ak ctx 184 [.d (.int .u8 c.toNat)] []=some (.ret (.d (.bool (rI c))),[]):=by
 rw[ag8 (by simp)];simp[f184,ai];grind [rI]
def Lc(c:UInt8):ak ctx 182 [.d (.int .u8 c.toNat)] []=some (.ret (.d (.bool (ga c))),[]):=by
 rw[ag6 (by simp)];simp[f182,ai,IP,DW];simp only[afB,Zb];grind [ga]
def Ld(c:UInt8):ak ctx 226 [.d (.int .u8 c.toNat)] []=some (.ret (.d (.int .i64 (ic c))),[]):=by
 rw[ahq (by simp)];simp[f226,ai,DW];have H:c.toNat<256:=c.toNat_lt;have w:∀y:Int, -9223372036854775808<=y->y<=9223372036854775807->IntKind.i64.wrap y=y:=λy D E=>qL ⟨D,E⟩;have I:∀y:Int,0<=y->y<=255->IntKind.u8.wrap y=y:=λy D E=>Zu D E;grind [ic,rI]
def ta{s:Tx}{i:Nat}(h:i<s.length):ki s i=s[i]:=by simp[ki,h]
def aa9(c:UInt8)(n:Nat)(A5:n<256):((c.toNat:Int)=n)↔c=UInt8.ofNat n:=by
 constructor
 .intro h;have h:c.toNat=n:=by omega
  rw[<-h];simp
 .rintro rfl;simp;omega
@[simp] def xx(s:Tx)(i:Nat):aE:=.box [.d (.str s),.d (.int .i64 i),.d (.int .i64 (ie (s.take i)).1),.d (.int .i64 (ie (s.take i)).2)]
def OX(s:Tx)(i:Nat)(h:i<=s.length):ak ctx 124 [.ptr 0 0 0] [xx s i]=some (.ret (.d (.str (s.drop i))),[(0,xx s i)]):=by
 rw[agB (by simp)];simp[f124,ai,h]
def Lf(s:Tx)(i n:Nat)(h:i+n<=s.length)(I:s.length<=100000)(k:Kt):∀(r j:Nat),j+r=n->
 aK ctx 126 (.loop (Code.at (aU f126) [1,0,0])) ⟨42,aC,[(0,true,.ptr 0 0 0),(4,true,.d (.int .i64 n)),(5,true,.d (.int .i64 j))],[⟨0,0,xx s (i+j)⟩]⟩ k=
  k (.exit 0) ⟨42,aC,[(0,true,.ptr 0 0 0),(4,true,.d (.int .i64 n)),(5,true,.d (.int .i64 n)),(6,true,.d (.bool false))],[⟨0,0,xx s (i+n)⟩]⟩
 |0,j,J=>by
  have J:j=n:=by omega
  subst J;rw[ag];simp[f126]
 |r+1,j,J=>by
  have ih:=Lf s i n h I k r (j+1) (by omega);have E:i+j<s.length:=by omega
  have A2:=Wn (s:=s) (i:=i+j);have D:=DI E;rw[show i+(j+1)=i+j+1 by omega]at ih;generalize A3:ie (s.take (i+j))=p at*;generalize A4:ie (s.take (i+j+1))=q at*;obtain⟨l,c⟩:=p;obtain⟨A6,A7⟩:=q;simp only at A2;have M:=bu (c+1);have N:=bu (l+1);have O:=bu ((i:Int)+j+1);have U:=bu ((j:Int)+1);have V:j<n:=by omega
  rw[ag];simp[f126,A3,A4]at ih⊢;have Z:(0:Int)<=(i:Int)+j:=by omega
  have y:((i:Int)+j).toNat=i+j:=by omega
  have A':=ta E;have A0:=aa9 s[i+j] 10 (by omega);simp at A0;unfold lC at D;by_cases H:s[i+j]=10
  .rw[aav H]at D;cases D;simp[V,M,N,O,U,E,ai,Z,y,A',H,ih]
  .rw[aaf H]at D;cases D;simp[V,M,N,O,U,E,ai,Z,y,A',A0,H,ih]
def BK(s:Tx)(i n:Nat)(h:i+n<=s.length)(I:s.length<=100000):ak ctx 126 [.ptr 0 0 0,.d (.int .i64 n)] [xx s i]=some (.ret (.bh []),[(0,xx s (i+n))]):=by
 have A1:=λk=>Lf s i n h I k n 0 (by omega);rw[agD (by simp)];simp[f126]at A1⊢;simp[A1]
def Ch(t:Tx)(c:UInt8):ak ctx 178 [.d (.str t),.d (.int .u8 c.toNat)] []=some (.ret (.d (.int .i64 (Go.Lib.indexByte t c))),[]):=by
 rw[ag4 (by simp)];simp[f178,ai]
def BL(s:Tx)(M:s.length<=100000)(k:Kt)(R:bU):∀(f i:Nat),i<=s.length->s.length-i<f->
 (k .ret ⟨51,aC,[(2,true,.d (.bool (gK f (s.drop i)).2))],[⟨0,0,xx s (i+(gK f (s.drop i)).1)⟩]⟩=R)->
 aK ctx 123 (.loop (Code.at (aU f123) [1,0,0])) ⟨51,aC,[(0,true,.ptr 0 0 0)],[⟨0,0,xx s i⟩]⟩ k=R
 |0,i,hi,A5,D=>by omega
 |f+1,i,hi,A5,D=>by
  have E:=OX s i hi;cases U:s.drop i with
  |nil=>
   rw[U]at E D;simp[gK]at E D;rw[ag];simp[f123,E,D,ai]
  |cons c r=>
   have AD:i+(r.length+1)=s.length:=by have:=aeH List.length U;simp at this;omega
   have N:=Ch (c::r) 10;rw[z7]at N;rw[U]at E D;unfold gK at D;have V:ki (c::r) 0=c:=rfl;have A6:=N6 (c::r);by_cases H:z6 c=true
   .rw[aav H]at D;have I:=BK s i 1 (by omega) M;have A':s.drop (i+1)=r:=by rw[<-List.tail_drop,U];rfl
    have ih:=BL s M k R f (i+1) (by omega) (by omega) (by rw[A',show i+1+(gK f r).1=i+(1+(gK f r).1) by omega];exact D);simp[z6]at H;rw[ag];simp[f123]at E I ih⊢;rcases H with (H|H)|H<;>simp[E,V,H,I,ih,ai]
   rw[aaf H]at D;have A0:¬(c.toNat:Int)=32:=λh=>H (by simp[z6];omega);have A1:¬(c.toNat:Int)=10:=λh=>H (by simp[z6];omega);have A2:¬(c.toNat:Int)=9:=λh=>H (by simp[z6];omega);have J:=Iq 47 47 c r;have O:=Iq 40 42 c r;by_cases A3:c=47/\r.head?=some 47
   .rw[aav A3]at D;have J:Go.Lib.hasPrefix (c::r) [47,47]=true:=by rw[J];simp[A3]
    have I:=BK s i (jU (c::r)) (by simp at A6;omega) M;have A':s.drop (i+jU (c::r))=(c::r).drop (jU (c::r)):=by rw[<-List.drop_drop,U]
    have AE:0<jU (c::r):=by simp[jU,A3.1]
    have ih:=BL s M k R f (i+jU (c::r)) (by simp at A6;omega) (by omega) (by rw[A',aaX];exact D);generalize jU (c::r)=n at*;rw[ag];by_cases Z:n<(c::r).length
    .rw[aav Z]at N;have A7:¬((n:Int)<0):=by omega
     simp[f123]at E I ih N⊢;simp[E,V,A0,A1,A2,J,N,A7,I,ih,ai]
    .rw[aaf Z]at N;have AB:n=r.length+1:=by simp at Z A6;omega
     subst AB;simp[f123]at E I ih N⊢;simp[E,V,A0,A1,A2,J,N,I,ih,ai]
   rw[aaf A3]at D;have J:Go.Lib.hasPrefix (c::r) [47,47]=false:=by rw[J];simpa using A3
   by_cases A4:c=40/\r.head?=some 42
   .rw[aav A4]at D;have O:Go.Lib.hasPrefix (c::r) [40,42]=true:=by rw[O];simp[A4]
    have y:=KV r.tail;have A9:(2:Int)<=(r.length:Int)+1:=by cases r with|nil=>simp at A4|cons d r=>simp;omega
    have AA:r.length-1<4294967281:=by omega
    cases A8:oY r.tail with
    |none=>
     rw[A8]at D y;simp at D y E;rw[ag];simp[f123];simp[E,V,A0,A1,A2,J,O,A9,AA,y,D,ai]
    |some m=>
     rw[A8]at D y;have hm:=Bx A8;have AF:r.tail.length=r.length-1:=by simp
     have I:=BK s i (m+4) (by omega) M;have A':s.drop (i+(m+4))=(c::r).drop (m+4):=by rw[<-List.drop_drop,U]
     have ih:=BL s M k R f (i+(m+4)) (by omega) (by omega) (by rw[A',aaX];exact D);have A7:¬((m:Int)<0):=by omega
     have AC:=bu ((m:Int)+4);rw[ag];simp[f123]at E I ih y⊢;simp[E,V,A0,A1,A2,J,O,A9,AA,y,A7,AC,I,ih,ai]
   rw[aaf A4]at D;have O:Go.Lib.hasPrefix (c::r) [40,42]=false:=by rw[O];simpa using A4
   simp at D E;rw[ag];simp[f123];simp[E,V,A0,A1,A2,J,O,D,ai]
def ac4(s:Tx)(i:Nat)(hi:i<=s.length)(M:s.length<=100000)(f:Nat)(A5:s.length-i<f):
 ak ctx 123 [.ptr 0 0 0] [xx s i]=some (.ret (.d (.bool (gK f (s.drop i)).2)),[(0,xx s (i+(gK f (s.drop i)).1))]):=by
 have Z:=λk R=>BL s M k R f i hi A5;rw[agA (by simp)];simp[f123]at Z⊢;rw[Z];simp
def QH(c:UInt8)(b:Int):ak ctx 225 [.d (.int .u8 c.toNat),.ptr 0 0 0] [.box [.d (.int .i64 b)]]=some (.ret (.d (.bool (decide ((ic c:Int)<b)))),[(0,.box [.d (.int .i64 b)])]):=by
 rw[ahp (by simp)];simp[f225,ai,Ld]
def FC(s:Tx)(H:s.length<=100000)(k:Kt):∀(r n:Nat),n+r=s.length->
 aK ctx 181 (.loop (Code.at (aU f181) [1,1,0,0,0])) ⟨20,aC,[(0,true,.d (.str s)),(1,true,.fn 182 []),(5,true,.d (.int .i64 n))],[]⟩ k=
  k (.exit 0) ⟨20,aC,[(0,true,.d (.str s)),(1,true,.fn 182 []),(5,true,.d (.int .i64 (n+((s.drop n).takeWhile ga).length:Nat))),(16,true,.d (.bool false))],[]⟩
 |0,n,I=>by
  have I:n=s.length:=by omega
  subst I;rw[ag];simp[f181]
 |r+1,n,I=>by
  have E:n<s.length:=by omega
  have ih:=FC s H k r (n+1) (by omega);have O:=bu ((n:Int)+1);have J:=ta E;have D:=Lc s[n];have U:s.drop n=s[n]::s.drop (n+1):=aej E;rw[U,List.takeWhile_cons];rw[ag];cases M:ga s[n]with
  |true=>
   rw[M]at D;have e:n+1+(List.takeWhile ga (s.drop (n+1))).length=n+((List.takeWhile ga (s.drop (n+1))).length+1):=by omega
   rw[e]at ih;simp[f181]at ih D⊢;simp[E,J,D,O,ih]
  |false=>
   rw[M]at D;simp[f181]at D⊢;simp[E,J,D]
def Ur(s:Tx)(H:s.length<=100000):ak ctx 181 [.d (.str s),.fn 182 []] []=some (.ret (.d (.int .i64 (s.takeWhile ga).length)),[]):=by
 have N:=λk=>FC s H k s.length 0 (by omega);rw[W1 (by simp)];simp[f181]at N⊢;simp[N]
def FD(s:Tx)(H:s.length<=100000)(b:Nat)(k:Kt):∀(r n:Nat),n+r=s.length->
 aK ctx 181 (.loop (Code.at (aU f181) [1,1,0,0,0])) ⟨20,aC,[(0,true,.d (.str s)),(1,true,.fn 225 [.ptr 0 0 0]),(5,true,.d (.int .i64 n))],[⟨0,0,.box [.d (.int .i64 b)]⟩]⟩ k=
  k (.exit 0) ⟨20,aC,[(0,true,.d (.str s)),(1,true,.fn 225 [.ptr 0 0 0]),(5,true,.d (.int .i64 (n+((s.drop n).takeWhile (λc=>decide (ic c<b))).length:Nat))),(16,true,.d (.bool false))],[⟨0,0,.box [.d (.int .i64 b)]⟩]⟩
 |0,n,I=>by
  have I:n=s.length:=by omega
  subst I;rw[ag];simp[f181]
 |r+1,n,I=>by
  have E:n<s.length:=by omega
  have ih:=FD s H b k r (n+1) (by omega);have O:=bu ((n:Int)+1);have J:=ta E;have D:=QH s[n] b;have U:s.drop n=s[n]::s.drop (n+1):=aej E;rw[U,List.takeWhile_cons];rw[ag];by_cases M:ic s[n]<b
  .have e:n+1+(List.takeWhile (λc=>decide (ic c<b)) (s.drop (n+1))).length=n+((List.takeWhile (λc=>decide (ic c<b)) (s.drop (n+1))).length+1):=by omega
   rw[e]at ih;simp[f181,M]at ih D⊢;simp[E,J,D,O,ih]
  .simp[f181,M]at D⊢;simp[E,J,D]
def Us(s:Tx)(H:s.length<=100000)(b:Nat):ak ctx 181 [.d (.str s),.fn 225 [.ptr 0 0 0]] [.box [.d (.int .i64 b)]]=
 some (.ret (.d (.int .i64 (s.takeWhile (λc=>decide (ic c<b))).length)),[(0,.box [.d (.int .i64 b)])]):=by
 have N:=λk=>FD s H b k s.length 0 (by omega);rw[W1 (by simp)];simp[f181]at N⊢;simp[N]
def ac5(c:UInt8):ic c<=99:=by
 unfold ic rI;split
 .rename_i h;simp at h;omega
 .split<;>omega
def OY(s:Tx)(AB:s.length<=100000)(b:Nat)(AC:2<=b/\b<=16)(n v:Nat)(E:aE)(U:n<=s.length)(k:Kt)(R:bU):∀(rest:Tx)(i x:Nat),(s.drop i).take rest.length=rest->i+rest.length=n->x<=9223372036854775807->
 (match JG b x rest with
  |none=>k .ret ⟨83,aC,[(2,true,.d (.int .i64 0)),(3,true,.d (.int .i64 0)),(4,true,.d (.int .i64 2))],[⟨350,1,.box [.d (.int .i64 b)]⟩,⟨500,v,E⟩]⟩
  |some y=>k (.exit 2) ⟨83,aC,[(0,true,.d (.str s)),(5,true,.ptr 350 1 0),(9,true,.d (.int .i64 n)),(10,true,.d (.int .i64 y)),(11,true,.d (.int .i64 n)),(63,true,.d (.bool false))],[⟨350,1,.box [.d (.int .i64 b)]⟩,⟨500,v,E⟩]⟩)=R->
 aK ctx 185 (.loop (Code.at (aU f185) [1,1,1,1,1,1,0,1,0,0])) ⟨83,aC,[(0,true,.d (.str s)),(5,true,.ptr 350 1 0),(9,true,.d (.int .i64 n)),(10,true,.d (.int .i64 x)),(11,true,.d (.int .i64 i))],[⟨350,1,.box [.d (.int .i64 b)]⟩,⟨500,v,E⟩]⟩ k=R
 |[],i,x,A3,hi,AR,J=>by
  have hi:i=n:=by simpa using hi
  subst hi;simp[JG]at J;rw[ag];simp[f185,J]
 |c::rest,i,x,A3,hi,AR,J=>by
  simp only[aao]at hi A3;have D:i<s.length:=by omega
  have V:i<n:=by omega
  have AS:s.drop i=s[i]::s.drop (i+1):=aej D;rw[AS,List.take_succ_cons]at A3;have M:s[i]=c:=(List.cons.inj A3).1;have AT:=(List.cons.inj A3).2;have AI:=ta D;have A0:=Ld c;have Ak:=ac5 c;have AU:=bu ((i:Int)+1);have AJ:IntKind.i64.wrap (9223372036854775807-(ic c:Int))=((9223372036854775807-ic c:Nat):Int):=by rw[(bu _)];omega
  have AV:(9223372036854775807-ic c)/b<=9223372036854775807:=ajf (ajn _ _) (Nat.sub_le _ _);have AK:IntKind.i64.wrap (((9223372036854775807-ic c:Nat):Int)/(b:Int))=(((9223372036854775807-ic c)/b:Nat):Int):=by
   rw[<-Int.natCast_ediv];generalize (9223372036854775807-ic c)/b=z at AV;exact (bu _)
  have AL:b≠0:=by omega
  unfold JG at J;rw[ag];by_cases A6:(9223372036854775807-ic c)/b<x
  .have AD:((9223372036854775807-ic c:Nat):Int)/(b:Int)<x:=by rw[<-Int.natCast_ediv];exact Int.ofNat_lt.2 A6
   rw[aav A6]at J;simp at J A0;simp[f185];simp[V,D,AI,M,A0,AJ,AK,AL,AD,J]
  .have AD:¬(((9223372036854775807-ic c:Nat):Int)/(b:Int)<x):=by rw[<-Int.natCast_ediv];exact λh=>A6 (Int.ofNat_lt.1 h)
   rw[aaf A6]at J;have hm:x*b<=9223372036854775807-ic c:=by
    have AE:x<=(9223372036854775807-ic c)/b:=by omega
    have:=aaG b AE;have AF:=Nat.div_mul_le_self (9223372036854775807-ic c) b;omega
   have AW:(x:Int)*(b:Int)=((x*b:Nat):Int):=by simp
   have AX:IntKind.i64.wrap ((x:Int)*b)=((x*b:Nat):Int):=by rw[AW];exact (bu _)
   have AY:IntKind.i64.wrap (((x*b:Nat):Int)+ic c)=((x*b+ic c:Nat):Int):=by rw[(bu _)];simp
   have ih:=OY s AB b AC n v E U k R rest (i+1) (x*b+ic c) AT (by omega) (by omega) J;generalize Al:x*b+ic c=An at*;generalize x*b=Ao at*;simp[f185]at ih⊢;simp[V,D,AI,M,A0,AU,AJ,AK,AX,AY,AL,AD,ih]
def lU{a:UInt8}{p s:Tx}(h:(a::p).isPrefixOf s=true):s.head?=some a/\p.length+1<=s.length:=by
 have Z:=List.isPrefixOf_iff_prefix.1 h;refine⟨?_,by simpa using Z.length_le⟩;obtain⟨t,rfl⟩:=Z;rfl
def BM(s:Tx):(Go.Lib.hasPrefix s [50,35]=true/\Go.Lib.hasPrefix s [56,35]=false/\Go.Lib.hasPrefix s [49,54,35]=false/\qh s=(2,2)/\2<=s.length)\/
 (Go.Lib.hasPrefix s [50,35]=false/\Go.Lib.hasPrefix s [56,35]=true/\Go.Lib.hasPrefix s [49,54,35]=false/\qh s=(8,2)/\2<=s.length)\/
 (Go.Lib.hasPrefix s [50,35]=false/\Go.Lib.hasPrefix s [56,35]=false/\Go.Lib.hasPrefix s [49,54,35]=true/\qh s=(16,3)/\3<=s.length)\/
 (Go.Lib.hasPrefix s [50,35]=false/\Go.Lib.hasPrefix s [56,35]=false/\Go.Lib.hasPrefix s [49,54,35]=false/\qh s=(10,0)/\0<=s.length):=by
 unfold Go.Lib.hasPrefix qh;have Ap:([50,35]:Tx).isPrefixOf s=true->([56,35]:Tx).isPrefixOf s=true->False:=λh g=>by
  have h:=(lU h).1;have g:=(lU g).1;rw[h]at g;revert g;decide
 have Aq:([50,35]:Tx).isPrefixOf s=true->([49,54,35]:Tx).isPrefixOf s=true->False:=λh g=>by
  have h:=(lU h).1;have g:=(lU g).1;rw[h]at g;revert g;decide
 have Ar:([56,35]:Tx).isPrefixOf s=true->([49,54,35]:Tx).isPrefixOf s=true->False:=λh g=>by
  have h:=(lU h).1;have g:=(lU g).1;rw[h]at g;revert g;decide
 have As:([50,35]:Tx).isPrefixOf s=true->2<=s.length:=λh=>(lU h).2;have At:([56,35]:Tx).isPrefixOf s=true->2<=s.length:=λh=>(lU h).2;have Au:([49,54,35]:Tx).isPrefixOf s=true->3<=s.length:=λh=>(lU h).2;cases AF:([50,35]:Tx).isPrefixOf s<;>cases Av:([56,35]:Tx).isPrefixOf s<;>cases Aw:([49,54,35]:Tx).isPrefixOf s<;>simp_all
def Ut(s:Tx)(AB:s.length<=100000):ak ctx 185 [.d (.str s)] []=some (.ret (.bh [.d (.int .i64 (pD s).1),.d (.int .i64 (pD s).2.1),.d (.int .i64 (pD s).2.2)]),[]):=by
 obtain⟨b,h,AM,AC,Ax⟩:∃b h,qh s=(b,h)/\(2<=b/\b<=16)/\h<=s.length:=by
  rcases BM s with ⟨_,_,_,e,N⟩|⟨_,_,_,e,N⟩|⟨_,_,_,e,N⟩|⟨_,_,_,e,N⟩<;>exact⟨_,_,e,by omega,by omega⟩
 have hw:=Us (s.drop h) (by simp;omega) b;obtain⟨H,A7⟩:∃H,H=(s.drop h).takeWhile (λc=>decide (ic c<b)):=⟨_,rfl⟩;rw[<-A7]at hw;have Ay:H.length<=s.length-h:=by
  have:=(aiq (λc=>decide (ic c<b)) (l:=s.drop h)).length_le;rw[<-A7]at this;simpa using this
 have AZ:(s.drop h).take H.length=H:=by
  rw[A7];exact List.prefix_iff_eq_take.1 (aiq _) |>.symm
 obtain⟨n,U⟩:∃n,n=h+H.length:=⟨_,rfl⟩;have A_:n<=s.length:=by omega
 have AN:=λv E k R=>OY s AB b AC n v E A_ k R H h 0 AZ U.symm (by omega);have wn:IntKind.i64.wrap ((h:Int)+H.length)=(n:Int):=by rw[(bu _)];omega
 have Az:¬((n:Int)<0):=by omega
 have B':(0:Int)<=n:=by omega
 obtain⟨F,I⟩:∃F:Nat×Nat×Nat,F=Gv s b h H:=⟨_,rfl⟩;have Aa:pD s=F:=by unfold pD;rw[I,AM];simp only[<-A7]
 rw[Aa];have Ab:=bu 1;have Ac:=bu 2;have Ad:=bu 3;have Ae:List.range' 0 3=[0,1,2]:=rfl;have key:∀(v:Nat)(E:aE)(k:Kt),n≠h->(n<s.length->ga (ki s n)=false/\ki s n≠35)->
  (∀x,k (.exit 2) ⟨83,aC,[(0,true,.d (.str s)),(5,true,.ptr 350 1 0),(9,true,.d (.int .i64 n)),(10,true,.d (.int .i64 x)),(11,true,.d (.int .i64 n)),(63,true,.d (.bool false))],[⟨350,1,.box [.d (.int .i64 b)]⟩,⟨500,v,E⟩]⟩=some (.ret (.bh [.d (.int .i64 n),.d (.int .i64 x),.d (.int .i64 0)]),[]))->
  (k .ret ⟨83,aC,[(2,true,.d (.int .i64 0)),(3,true,.d (.int .i64 0)),(4,true,.d (.int .i64 2))],[⟨350,1,.box [.d (.int .i64 b)]⟩,⟨500,v,E⟩]⟩=some (.ret (.bh [.d (.int .i64 0),.d (.int .i64 0),.d (.int .i64 2)]),[]))->
  aK ctx 185 (.loop (Code.at (aU f185) [1,1,1,1,1,1,0,1,0,0])) ⟨83,aC,[(0,true,.d (.str s)),(5,true,.ptr 350 1 0),(9,true,.d (.int .i64 n)),(10,true,.d (.int .i64 (0:Nat))),(11,true,.d (.int .i64 h))],[⟨350,1,.box [.d (.int .i64 b)]⟩,⟨500,v,E⟩]⟩ k=
   some (.ret (.bh [.d (.int .i64 F.1),.d (.int .i64 F.2.1),.d (.int .i64 F.2.2)]),[]):=by
  intro v E k AE AF Af Ag;have Ah:¬(H=[]\/∃c,s[h+H.length]?=some c/\(ga c=true\/c=35)):=by
   rintro (M|⟨c,M,O⟩)
   .exact AE (by rw[U,M];rfl)
   .rw[<-U]at M;obtain⟨D,Ai⟩:=aai.1 M;have AG:=AF D;rw[ta D,Ai]at AG;rcases O with O|O
    .rw[AG.1]at O;cases O
    .exact AG.2 O
  unfold Gv at I;rw[aaf Ah,<-U]at I;refine AN v E k _ ?_;cases A0:JG b 0 H with
  |none=>rw[A0]at I;rw[I];exact Ag
  |some x=>rw[A0]at I;rw[I];exact Af x
 have err:∀c,n<s.length->ki s n=c->(ga c=true\/c=35)->F=(0,0,5):=by
  intro c D M O;unfold Gv at I;rw[I,aav (.inr ⟨c,by rw[<-U,ad4 D,<-ta D,M],O⟩)]
 have AO:n=h->F=(0,0,5):=by
  intro he;unfold Gv at I;rw[I,aav (.inl (List.length_eq_zero_iff.1 (by omega)))]
 have A':=Lc (ki s n);have AP:=aa9 (ki s n) 35 (by omega);simp at AP;clear I AN;rw[ag9 (by simp)];rcases BM s with ⟨A8,A9,AA,e,N⟩|⟨A8,A9,AA,e,N⟩|⟨A8,A9,AA,e,N⟩|⟨A8,A9,AA,e,N⟩;all_goals
  obtain⟨Z,AH⟩:∃Z:Nat,Z=h:=⟨_,rfl⟩;rw[AM]at e;cases e;have AQ:=Int.ofNat_le.2 N;simp[f185]at hw wn AQ key AO;simp[f185,Ae];iterate 4 (rw[ag];simp[A8,A9,AA,Ab,Ac,Ad,ai])
  simp[N,AQ,hw,wn];by_cases A1:n=Z
  .have A4:=AO (A1.trans AH);rw[AH]at A1;simp[A1,A4]
  .have A2:¬((n:Int)=(Z:Int)):=by omega
   rw[AH]at A2 A1;simp at A2;by_cases D:n<s.length
   .cases V:ga (ki s n)
    .rw[V]at A';by_cases A5:ki s n=35
     .have A4:=err _ D A5 (.inr rfl);rw[A5]at A';simp at A';simp[A2,D,A',A5,A4]
     .have Aj:¬((ki s n).toNat:Int)=35:=λh=>A5 (AP.1 h);simp[A2,D,A',Aj];exact key _ _ _ A1 (λ_=>⟨V,A5⟩) (λx=>by simp) (by simp)
    .have A4:=err _ D rfl (.inl V);rw[V]at A';simp[A2,D,A',A4]
   .simp[A2,D];exact key _ _ _ A1 (λh=>absurd h D) (λx=>by simp) (by simp)
def uW(s:Tx):Nat->List Tx->Int
 |_,[]=> -1
 |i,x::r=>if s=x then (i:Int)else uW s (i+1) r
def O0(s:Tx):∀(l:List Tx)(i:Nat),decide (0<=uW s i l)=decide (s∈l)
 |[],i=>by simp[uW]
 |x::r,i=>by
  have:=O0 s r (i+1);unfold uW;by_cases h:s=x
  .simp[h]
  .simp only[aaf h,this];simp[h]
def FE(l:List Tx)(H:l.length<=1000)(s:Tx)(k:Kt)(R:bU):∀(rest:List Tx)(i:Nat),l.drop i=rest->i+rest.length=l.length->
 ((if 0<=uW s i rest then k .ret ⟨19,aC,[(4,true,.d (.int .i64 (uW s i rest)))],[]⟩else k (.exit 0) ⟨19,aC,[(0,true,.d (.list (l.map .str))),(1,true,.d (.str s)),(7,true,.d (.int .i64 l.length)),(8,true,.d (.int .i64 l.length)),(9,true,.d (.bool false))],[]⟩)=R)->
 aK ctx 253 (.loop (Code.at (aU f253) [1,0,1,0,0])) ⟨19,aC,[(0,true,.d (.list (l.map .str))),(1,true,.d (.str s)),(7,true,.d (.int .i64 l.length)),(8,true,.d (.int .i64 i))],[]⟩ k=R
 |[],i,I,hi,h=>by
  have hi:i=l.length:=by simpa using hi
  subst hi;rw[ag];simp[uW]at h;simp[f253,h]
 |x::rest,i,I,hi,h=>by
  have J:i<l.length:=by simp at hi;omega
  have N:l[i]=x:=by
   have:=aeH (·[0]?) I;simp at this;simpa [J]using this
  have Z:=bu ((i:Int)+1);unfold uW at h;rw[ag];by_cases E:s=x
  .simp[E]at h;simp[f253];simp[J,N,E,h]
  .rw[aaf E]at h;have ih:=FE l H s k R rest (i+1) (by rw[<-List.tail_drop,I];rfl) (by simp at hi;omega) h;simp[f253]at ih⊢;simp[J,N,E,Z,ih]
def O1(s:Tx):∀(l:List Tx)(i:Nat),¬0<=uW s i l->uW s i l= -1
 |[],i,_=>rfl
 |x::r,i,h=>by
  unfold uW at h⊢;split
  .rename_i E;rw[aav E]at h;omega
  .rename_i E;rw[aaf E]at h;exact O1 s r (i+1) h
def Uu(l:List Tx)(H:l.length<=1000)(s:Tx):ak ctx 253 [.d (.list (l.map .str)),.d (.str s)] []=some (.ret (.d (.int .i64 (uW s 0 l))),[]):=by
 have O:=λk R h=>FE l H s k R l 0 rfl (by simp) h;rw[ahA (by simp)];simp[f253]at O⊢;rw[O];split
 .simp
 .rename_i h;simp[O1 s l 0 h]
def O3(l:List Tx)(H:l.length<=1000)(s:Tx):ak ctx 224 [.d (.list (l.map .str)),.d (.str s)] []=some (.ret (.d (.bool (decide (s∈l)))),[]):=by
 have h:=Uu l H s;rw[aho (by simp)];simp[f224,h,<-O0 s l 0]
def Uv:ak ctx 171 [.d (.str Wo)] []=some (.ret (.d (.list (lD.map .str))),[]):=sS 300 (by kernel_rfl)
def Zv(s:Tx):ak ctx 183 [.d (.str s)] []=some (.ret (.d (.bool (yn s))),[]):=by
 have M:=Uv;have U:=O3 lD (by decide) s;unfold Wo at M;generalize lD.map D.str=W at M U;rw[ag7 (by simp)];simp[f183,M,U,yn]
def Ci(c:UInt8):∀(l:Tx),0<=Go.Lib.indexByte l c↔c∈l
 |[]=>by simp[Go.Lib.indexByte]
 |b::r=>by
  have ih:=Ci c r;have A6:=Go.Lib.indexByte_ge r c;unfold Go.Lib.indexByte;by_cases h:b=c
  .simp[h]
  .have y:¬c=b:=λe=>h e.symm;simp only[beq_iff_eq,h,abc,aam,y,false_or,<-ih];split<;>omega
def Zw(c:UInt8)(r:Tx):vJ (c::r)=if Go.Lib.hasPrefix (c::r) [58,61]=true then 2 else if Go.Lib.hasPrefix (c::r) [60,61]=true then 2 else if Go.Lib.hasPrefix (c::r) [62,61]=true then 2 else if Go.Lib.hasPrefix (c::r) [60,62]=true then 2 else if Go.Lib.hasPrefix (c::r) [46,46]=true then 2 else if 0<=Go.Lib.indexByte DJ c then 1 else 0:=by
 have hm:=Ci c DJ;unfold vJ N7 Go.Lib.hasPrefix;simp only[List.any_cons,List.any_nil,Bool.or_false,aiB,hm];grind
def Zx(c:UInt8)(r:Tx):ak ctx 186 [.d (.str (c::r))] []=some (.ret (.d (.int .i64 (vJ (c::r)))),[]):=by
 have A':List.range' 0 5=[0,1,2,3,4]:=rfl;have A0:=bu 1;have A1:=bu 2;have A2:=bu 3;have A3:=bu 4;have A4:=bu 5;have V:=Ch DJ c;rw[aha (by simp)];simp[f186,A'];iterate 6 (try (rw[ag];simp[A0,A1,A2,A3,A4,ai]))
 have A5:ki (c::r) 0=c:=rfl;rw[Zw];unfold DJ at V⊢;simp[A5,V];grind
def RV(s:Tx):(pD s).1<=s.length:=by
 unfold pD Gv;rcases BM s with ⟨_,_,_,e,D⟩|⟨_,_,_,e,D⟩|⟨_,_,_,e,D⟩|⟨_,_,_,e,D⟩;all_goals
  rw[e];simp only
  split
  .simp
  .split
   .simp
   .rename_i x _;simp only
    have:=(aiq (λc=>decide (ic c<(qh s).1)) (l:=s.drop (qh s).2)).length_le;rw[e]at this;simp only[aeQ]at this;omega
def O4(c:UInt8)(r:Tx):vJ (c::r)<=(c::r).length:=by
 unfold vJ;split
 .rename_i h;simp only[N7,List.any_cons,List.any_nil,Bool.or_false,aiB]at h;rcases h with h|h|h|h|h<;>exact (lU h).2
 .simp only
  split<;>simp
def Zy(c:UInt8)(r:Tx)(y:(c::r).length<=100000)(line Ir:Int):ak ctx 125 [.d (.str (c::r)),.d (sX ⟨0,[],0,line,Ir⟩)] []=
 some (.ret (.bh [.d (sX ⟨(mc (c::r)).2.1,(c::r).take (mc (c::r)).2.2.1,(mc (c::r)).2.2.2,line,Ir⟩),.d (.int .i64 (mc (c::r)).1)]),[]):=by
 have J:ki (c::r) 0=c:=rfl;have D:=IP c;have M:=DW c;have hw:=Ur (c::r) y;have V:=Ut (c::r) y;have A':=Zx c r;have O:((c::r).takeWhile ga).length<=(c::r).length:=(aiq _).length_le;have U:=RV (c::r);have Z:=O4 c r;have N:=Zv ((c::r).take ((c::r).takeWhile ga).length);unfold mc;generalize A2:((c::r).takeWhile ga).length=A0 at*;generalize A3:vJ (c::r)=A1 at*;generalize A4:pD (c::r)=F at*;obtain⟨n,x,e⟩:=F;simp only at V U;rw[agC (by simp)];simp only[aao]at O U Z;cases H:sW c with
 |true=>
  rw[H]at D;cases E:yn ((c::r).take A0)with
  |true=>
   rw[E]at N;simp[f125,ai,J,D,hw,O,N,H,E]
  |false=>
   rw[E]at N;by_cases I:16<A0
   .simp[f125,ai,J,D,hw,O,N,H,E,I];omega
   .simp[f125,ai,J,D,hw,O,N,H,E,I];omega
 |false=>
  rw[H]at D;cases E:rI c with
  |true=>
   rw[E]at M;by_cases I:e=0
   .simp[f125,ai,J,D,M,V,U,H,E,I]
   .simp[f125,ai,J,D,M,V,U,H,E,I]
  |false=>
   rw[E]at M;by_cases I:A1=0
   .simp[f125,ai,J,D,M,A',Z,H,E,I]
   .simp[f125,ai,J,D,M,A',Z,H,E,I]
def Zz{s:Tx}(h:(pD s).2.2=0):1<=(pD s).1:=by
 unfold pD Gv at h⊢;split
 .rename_i N;rw[aav N]at h;simp at h
 .rename_i N;rw[aaf N]at h;split
  .rename_i A4;rw[A4]at h;simp at h
  .simp only
   simp only[amG]at N;have:=List.length_pos_iff.2 N.1;omega
def ZA{c:UInt8}{r:Tx}(h:(mc (c::r)).1=0):1<=(mc (c::r)).2.2.1/\(mc (c::r)).2.2.1<=(c::r).length:=by
 have A':((c::r).takeWhile ga).length<=(c::r).length:=(aiq _).length_le;have A5:=RV (c::r);have A6:=O4 c r;have A7:sW c=true->1<=((c::r).takeWhile ga).length:=by
  intro U;have:ga c=true:=by unfold ga;rw[U];rfl
  simp[this]
 have A8:=Zz (s:=c::r);unfold mc at h⊢;simp only at h⊢;generalize ((c::r).takeWhile ga).length=AK at*;generalize vJ (c::r)=AL at*;generalize pD (c::r)=F at*;by_cases V:sW c=true
 .simp only[aav V]at h⊢;have:=A7 V;split at h
  .rename_i hw;rw[aav hw];exact⟨this,A'⟩
  .rename_i hw;rw[aaf hw];split at h
   .simp at h
   .rename_i A9;rw[aaf A9];exact⟨this,A'⟩
 .simp only[aaf V]at h⊢;by_cases A0:rI c=true
  .simp only[aav A0]at h⊢;split at h
   .rename_i he;rw[aav he];exact⟨A8 he,A5⟩
   .rename_i he;exact absurd h he
  .simp only[aaf A0]at h⊢;split at h
   .simp at h
   .rename_i he;rw[aaf he];exact⟨by simp only;omega,A6⟩
def O6(s:Tx)(AA:s.length<=16384):∀(f i:Nat)(out:List gn)(v4 v5 E:Nat)(H I:aE),i<=s.length->s.length-i<f->out.length<=i->
 aK ctx 76 (.loop (Code.at (aU f76) [1,1,1,1,0,0])) ⟨62,aC,[(4,true,.ptr 300 1 0),(5,true,.ptr 950 1 0),(6,true,.vec 400 v4 0 out.length)],
  [⟨200,1,.vec 5 []⟩,⟨300,1,.box [.d (.int .i64 0),.d (.str []),.d (.int .i64 0),.d (.int .i64 0),.d (.int .i64 0)]⟩,⟨400,v4,.vec 5 (out.map sX)⟩,⟨500,v5,H⟩,⟨550,E,I⟩,⟨950,1,xx s i⟩]⟩
  (Gr 0 (Gs Tryz.prog (oJ 76).f 0 [.tmp 2,.tmp 3,.cell 4 49]))=some (.ret (.bh [.d (.list ((Gw s f i out).1.map sX)),.d (.int .i64 (Gw s f i out).2.1),.d (sX (Gw s f i out).2.2)]),[])
 |0,i,out,v4,v5,E,H,I,hi,AB,AC=>by omega
 |f+1,i,out,v4,v5,E,H,I,hi,AB,AC=>by
  have D:=ac4 s i hi (by omega) (s.length+1) (by omega);have AD:=Ez (s.length+1) (s.drop i);unfold Gw;generalize gK (s.length+1) (s.drop i)=g at*;obtain⟨n,ok⟩:=g;simp only[aeQ]at AD;simp only at D⊢;obtain⟨j,AE⟩:∃j,j=i+n:=⟨_,rfl⟩;have AF:j<=s.length:=by omega
  have AM:((i+n:Nat):Int)=(i:Int)+n:=by omega
  rw[<-AE]at D⊢;have J:=OX s j AF;generalize M:ie (s.take j)=p at*;obtain⟨l,c⟩:=p;rw[ag];cases ok with
  |false=>
   simp[M]at D;simp[f76,ai,D,here]
  |true=>
   simp only[Bool.true_eq_false,abc];cases Z:s.drop j with
   |nil=>
    rw[Z]at J;simp[M]at D J;have g1:(out.length+1)*48<=140737488355328/\out.length<=4611686018427387903:=by omega
    simp[f76,ai,D,J,here,g1]
   |cons a r=>
    rw[Z]at J;have AN:j+(r.length+1)=s.length:=by have:=aeH List.length Z;simp at this;omega
    have O:=Zy a r (by simp;omega) l c;have A1:=ZA (c:=a) (r:=r);have AG:¬(a::r=[]):=by simp
    simp only[aaf AG];generalize mc (a::r)=F at*;obtain⟨e,AH,m,x⟩:=F;simp only at O A1⊢;simp[M]at D J;have g1:(out.length+1)*48<=140737488355328/\out.length<=4611686018427387903:=by omega
    by_cases he:e=0
    .subst he;obtain⟨AO,AI⟩:=A1 rfl;simp only[aao]at AI;have A2:=BK s j m (by omega) (by omega);have ih:=λv4 v5 E H I=>O6 s AA f (j+m) (out++[⟨AH,(a::r).take m,x,l,c⟩]) v4 v5 E H I (by omega) (by omega) (by simp;omega);have A3:min m (r.length+1)=m:=by omega
     have AP:((min m (r.length+1):Nat):Int)=m:=by rw[A3]
     simp at O;simp[f76,M]at ih A2⊢;simp[ai,D,J,O,g1,A3,A2,ih]
    .simp at O;have AJ:¬((e:Int)=0):=by omega
     simp[f76,ai,D,J,O,he,AJ,here]
def ac6(s:Tx):ak ctx 76 [.d (.str s)] []=some (.ret (.bh [.d (.list ((JH s).1.map sX)),.d (.int .i64 (JH s).2.1),.d (sX (JH s).2.2)]),[]):=by
 rw[alC (by simp)];unfold JH;by_cases h:16384<s.length
 .have y:(16384:Int)<s.length:=by omega
  simp[f76,ai,h,y]
 .have y:¬((16384:Int)<s.length):=by omega
  have U:=λv4 v5 E H I=>O6 s (by omega) (s.length+1) 0 [] v4 v5 E H I (by omega) (by omega) (by simp);rw[aaf h];generalize Gw s (s.length+1) 0 []=L at*;have M:ie []=(1,1):=rfl;simp[f76,M]at U;simp[f76,ai,h,y];exact U _ _ _ _ _
def Lg(p q:Int×Int):Prop:=p.1<q.1\/(p.1=q.1/\p.2<q.2)
def O9(p:Int×Int)(c:UInt8):Lg p (lC p c):=by
 unfold Lg lC;split
 .left;simp only;omega
 .right;simp only;exact⟨trivial,by omega⟩
def Xc{p q r:Int×Int}(h:Lg p q)(k:Lg q r):Lg p r:=by
 unfold Lg at*;omega
def RX{s:Tx}:∀(d i:Nat),i+d+1<=s.length->Lg (ie (s.take i)) (ie (s.take (i+d+1)))
 |0,i,h=>by
  rw[DI (show i+0<s.length by omega)];exact O9 _ _
 |d+1,i,h=>by
  have:=RX (s:=s) d i (by omega);rw[DI (show i+(d+1)<s.length by omega)];exact Xc this (O9 _ _)
def RY{s:Tx}{i j:Nat}(h:i<j)(N:j<=s.length):¬((ie (s.take j)).1=(ie (s.take i)).1/\(ie (s.take j)).2=(ie (s.take i)).2):=by
 have:=RX (s:=s) (j-i-1) i (by omega);rw[show i+(j-i-1)+1=j by omega]at this;unfold Lg at this;omega
inductive Laid(s:Tx):Nat->List gn->Prop
 |fin (i:Nat) (h:i<=s.length):Laid s i [here (ie (s.take s.length))]
 |sign (i j m:Nat) (k n:Int) (r:List gn) (J:i<=j) (D:j+m<=s.length) (E:1<=m) (h:Laid s (j+m) r):
  Laid s i (⟨k,(s.drop j).take m,n,(ie (s.take j)).1,(ie (s.take j)).2⟩::r)
def Laid.weaken{s:Tx}{i H:Nat}{r:List gn}(h:Laid s i r)(hi:H<=i):Laid s H r:=by
 cases h with
 |fin _ h=>exact .fin H (by omega)
 |sign _ j m k n r J D E h=>exact .sign H j m k n r (by omega) D E h
def Laid.step{s:Tx}{i:Nat}{t:gn}{r:List gn}(h:Laid s i (t::r))(hi:i<=s.length):
 (¬(t.line=(ie (s.take i)).1/\t.Ir=(ie (s.take i)).2)/\i<s.length/\Laid s (i+1) (t::r))\/
 ((t.line=(ie (s.take i)).1/\t.Ir=(ie (s.take i)).2)/\t.text.length<=s.length-i/\(s.drop i).take t.text.length=t.text/\((i<s.length/\Laid s (i+1) r)\/(i=s.length/\r=[]))):=by
 cases h with
 |fin _ h=>
  by_cases he:i=s.length
  .subst he;right;simp[here]
  .left;have I:i<s.length:=by omega
   exact⟨RY I (aak _),I,.fin _ (by omega)⟩
 |sign _ j m k n r J D E h=>
  by_cases he:i=j
  .subst he;right;have M:((s.drop i).take m).length=m:=by simp;omega
   refine⟨⟨rfl,rfl⟩,?_,?_,.inl ⟨by omega,h.weaken (by omega)⟩⟩
   .simp only[M];omega
   .simp only[M]
  .left;have I:i<j:=by omega
   exact⟨RY I (by omega),by omega,.sign _ j m k n r (by omega) D E h⟩
def ac7(x y E H I J M N:D)(aq:List D):JE ctx 77 [.ptr 0 0 0,.ptr 1 0 0,.ptr 2 0 0,.lit .nilIface] [.box [.d x,.vec 3 0 0 aq.length,.d y],.box [.d E],.box [.d H,.d I,.d J,.d M,.d N],.vec 8 aq]=
 some (.ret (.bh []),[(0,.box [.d x,.vec 3 1 0 aq.length,.d y]),(0,.box [.d E]),(0,.box [.d H,.d I,.d J,.d M,.d N]),(1,.vec 8 aq)]):=by
 rw[alD (by rfl) (by rfl) (by simp)];simp[f77];erw[Wl rfl];simp
def Xd{V:Tx}{O:List gn}{a:Tx}{R c:List D}{n m:Int}(A0:JH V=(O,0,⟨0,[],0,0,0⟩))
 (Z:ak ctx 78 [.ptr 0 0 0] [.box [.d (.list (O.map sX)),.d (.int .i64 0),.d (.int .i64 0),.vec 1 0 0 0],.vec 8 []]=
  some (.ret (.agg [.d (.str a),.vec 1 1 0 R.length,.d (.list c)]),[(0,.box [.d (.list (O.map sX)),.d (.int .i64 n),.d (.int .i64 m),.vec 1 1 0 R.length]),(1,.vec 8 R)])):
 ak ctx 43 [.d (.str V)] []=some (.ret (.bh [.d (.agg [.str a,.list R,.list c]),.d (.int .i64 0),.d (.agg [.int .i64 0,.str [],.int .i64 0,.int .i64 0,.int .i64 0])]),[]):=by
 have U:=ac6 V;rw[A0]at U;have A':=λx y E H I J M N=>ac7 x y E H I J M N R;simp only at U;generalize O.map sX=T at*;have A1:List.take R.length R=R:=List.take_length;rw[alp (by simp)];simp at U A' Z;simp[f43,Dc,Q7,oW,dfv,U,ai,Z,A',A1]
def XH:Tx:=[80,82,79,71,82,65,77,32,112,32,86,65,82,32,97,32,58,32,73,78,84,59,32,69,78,68,95,86,65,82,32,97,32,58,61,32,97,32,43,32,49,59,32,69,78,68,95,80,82,79,71,82,65,77]
def PE:List gn:=[⟨2,[80,82,79,71,82,65,77],0,1,1⟩,⟨1,[112],0,1,9⟩,⟨2,[86,65,82],0,1,11⟩,⟨1,[97],0,1,15⟩,⟨4,[58],0,1,17⟩,⟨2,[73,78,84],0,1,19⟩,⟨4,[59],0,1,22⟩,⟨2,[69,78,68,95,86,65,82],0,1,24⟩,
 ⟨1,[97],0,1,32⟩,⟨4,[58,61],0,1,34⟩,⟨1,[97],0,1,37⟩,⟨4,[43],0,1,39⟩,⟨3,[49],1,1,41⟩,⟨4,[59],0,1,42⟩,⟨2,[69,78,68,95,80,82,79,71,82,65,77],0,1,44⟩,⟨0,[],0,1,55⟩]
def UC:JH XH=(PE,0,⟨0,[],0,0,0⟩):=by kernel_rfl
def zA:Pg:=⟨[112],[⟨[97],1,0,false,0,0,0,1⟩],[.mk 1 [] (.mk 3 0 [97] [] [] 1) (.mk 8 0 [] [] [.mk 3 0 [97] [] [] 1,.mk 1 1 [] [] [] 1] 1) [] [] [] [] 1]⟩
def XI:ak ctx 78 [.ptr 0 0 0] [.box [.d (.list (PE.map sX)),.d (.int .i64 0),.d (.int .i64 0),.vec 1 0 0 0],.vec 8 []]=
 some (.ret (.agg [.d (.str zA.name),.vec 1 1 0 (zA.vars.map bx).length,.d (.list (zA.body.map bZ))]),[(0,.box [.d (.list (PE.map sX)),.d (.int .i64 15),.d (.int .i64 0),.vec 1 1 0 (zA.vars.map bx).length]),(1,.vec 8 (zA.vars.map bx))]):=sS 300 (by kernel_rfl)
def adt:JY zA:=⟨by kernel_rfl,by kernel_rfl,by kernel_rfl,by decide+kernel⟩
def ZS:sZ zA=some ([ins 11 0 0 0 0,ins 2 0 0 0 0,ins 1 0 0 1 0,ins 8 0 8 0 0,ins 6 0 0 0 0,ins 15 0 0 0 0],1,1):=by kernel_rfl
def aiN:ak ctx 15 [] []=some (.ret (.d (.bool true)),[]):=by
 have E:=Xd UC XI;have D:=PD adt;rw[ZS]at D;simp only[gO]at D;generalize zA.name=a at*;generalize zA.body.map bZ=c at*;generalize zA.vars.map bx=R at*;rw[ak9 (by simp)];simp[XH]at E;simp[Cn,Lp,ins]at D;simp[f15,E,D]
end Go.Am
end
